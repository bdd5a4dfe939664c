import Derived.Test.YtebiidfpgdolnaaDoorMt
import Derived.Lib.SplitLaws
import Derived.Lib.IndexBytes
import Derived.Lib.Join
import Derived.Shelf.Strings.Builder1
import Derived.Shelf.Strings.Builder2
import Derived.Shelf.Strings.OnBuilder
import Derived.Shelf.Small.Strs
import Derived.Shelf.Strings.Search1
import Derived.Shelf.Strings.Search2
import Derived.Shelf.Strings.Search3
import Derived.Shelf.Strings.Count
import Derived.Shelf.Strings.Split
import Derived.Test.YtebiidfpgdolnaaDoorRows
import Derived.Test.YtebiidfpgdolnaaDoorMu
import Derived.Test.YtebiidfpgdolnaaDoorMv
import Derived.Test.YtebiidfpgdolnaaDoorMw
import Derived.Lib.CutLaws
import Derived.Shelf.RegionOpenPlain
namespace Go.Proofs.YtebiidfpgdolnaaDoor.Dmp
open Go.ChangeShapes Go.WideShapes Go.ChangeAt Go.RowKit Go.Deep
set_option linter.unusedVariables false
open Go.Lib
set_option linter.unusedSimpArgs false

/-! ### A text's parts between a byte -/
def spl (c : UInt8) : List UInt8 → List (List UInt8)
  | [] => [[]]
  | x :: r => if x = c then [] :: spl c r else match spl c r with
    | [] => [[x]]
    | h :: t => (x :: h) :: t
theorem spl_ne (c : UInt8) (l : List UInt8) : spl c l ≠ [] := by
  cases l with
  | nil => simp [spl]
  | cons x r =>
    unfold spl
    split
    · simp
    · split <;> simp
theorem spl_one (c : UInt8) : ∀ l : List UInt8, c ∉ l → spl c l = [l]
  | [], _ => rfl
  | x :: r, h => by
    have h1 : ¬ x = c := fun e => h (by simp [e])
    have h2 : c ∉ r := fun e => h (by simp [e])
    rw [spl, if_neg h1, spl_one c r h2]
theorem spl_cut (c : UInt8) : ∀ (a b : List UInt8), c ∉ a → spl c (a ++ c :: b) = a :: spl c b
  | [], b, _ => by simp [spl]
  | x :: a, b, h => by
    have h1 : ¬ x = c := fun e => h (by simp [e])
    have h2 : c ∉ a := fun e => h (by simp [e])
    rw [List.cons_append, spl, if_neg h1, spl_cut c a b h2]
theorem spl_len (c : UInt8) : ∀ l : List UInt8, (spl c l).length ≤ l.length + 1
  | [] => by simp [spl]
  | x :: r => by
    have := spl_len c r
    unfold spl
    split
    · simp; omega
    · split
      · simp
      · rename_i h t e; rw [e] at this; simp at this ⊢; omega
theorem spl_join (c : UInt8) : ∀ ws : List (List UInt8), ws ≠ [] → (∀ x ∈ ws, c ∉ x) → spl c (Lib.join ws [c]) = ws
  | [], h, _ => absurd rfl h
  | [x], _, h => by rw [Lib.join_one]; exact spl_one c x (h x (by simp))
  | x :: y :: r, _, h => by
    have e : Lib.join (x :: y :: r) [c] = x ++ c :: Lib.join (y :: r) [c] := by
      rw [Lib.join_cons, Lib.join_cons]
      simp [Lib.joinTail]
    rw [e, spl_cut c x _ (h x (by simp)), spl_join c (y :: r) (by simp) (fun z hz => h z (by simp [hz]))]
/-- Each part is no longer than the text. -/
theorem spl_le (c : UInt8) : ∀ (l x : List UInt8), x ∈ spl c l → x.length ≤ l.length
  | [], x, h => by simp [spl] at h; simp [h]
  | y :: r, x, h => by
    unfold spl at h
    split at h
    · rcases List.mem_cons.1 h with rfl | h
      · simp
      · have := spl_le c r x h; simp; omega
    · split at h
      · simp at h; subst h; simp
      · rename_i h0 t e
        rcases List.mem_cons.1 h with rfl | h
        · have := spl_le c r h0 (by rw [e]; simp); simp; omega
        · have := spl_le c r x (by rw [e]; simp [h]); simp; omega

def mkB (l : List UInt8) : ByteArray := ⟨l.toArray⟩
def splB (c : UInt8) (s : ByteArray) : List ByteArray := (spl c s.data.toList).map mkB
theorem mkB_list (s : ByteArray) : mkB s.data.toList = s := rfl
theorem list_mkB (l : List UInt8) : (mkB l).data.toList = l := rfl

theorem indexByte_hit (c : UInt8) : ∀ (a b : List UInt8), c ∉ a → Lib.indexByte (a ++ c :: b) c = a.length
  | [], b, _ => by simp [Lib.indexByte]
  | x :: a, b, h => by
    have h1 : ¬ x = c := fun e => h (by simp [e])
    have h2 : c ∉ a := fun e => h (by simp [e])
    have ih := indexByte_hit c a b h2
    rw [List.cons_append, Lib.indexByte, if_neg (by simpa using h1), ih]
    have : ¬ ((a.length : Int) == -1) = true := by simp
    simp
theorem indexByte_miss (c : UInt8) : ∀ (a : List UInt8), c ∉ a → Lib.indexByte a c = -1
  | [], _ => rfl
  | x :: a, h => by
    have h1 : ¬ x = c := fun e => h (by simp [e])
    have h2 : c ∉ a := fun e => h (by simp [e])
    rw [Lib.indexByte, if_neg (by simpa using h1), indexByte_miss c a h2]
    rfl
theorem split_at (c : UInt8) : ∀ l : List UInt8, c ∈ l → ∃ a b, l = a ++ c :: b ∧ c ∉ a
  | [], h => by simp at h
  | x :: r, h => by
    by_cases e : x = c
    · exact ⟨[], r, by simp [e], by simp⟩
    · obtain ⟨a, b, rfl, h2⟩ := split_at c r (by simpa [Ne.symm e] using h)
      exact ⟨x :: a, b, rfl, by simp [h2, Ne.symm e]⟩
theorem splitK_spl (c : UInt8) : ∀ (k : Nat) (l : List UInt8), l.count c = k → Lib.splitK [c] 0 k l = spl c l
  | 0, l, h => by
    have hc : c ∉ l := List.count_eq_zero.1 h
    rw [spl_one c l hc]; rfl
  | k + 1, l, h => by
    have hc : c ∈ l := by
      rcases Decidable.em (c ∈ l) with h1 | h1
      · exact h1
      · rw [List.count_eq_zero.2 h1] at h; omega
    obtain ⟨a, b, rfl, ha⟩ := split_at c l hc
    have hb : b.count c = k := by
      rw [List.count_append, List.count_cons_self, List.count_eq_zero.2 ha] at h; omega
    have hi : Lib.index (a ++ c :: b) [c] = a.length := by rw [Lib.index_one, indexByte_hit c a b ha]
    have hn : ¬ (Lib.index (a ++ c :: b) [c] == -1) = true := by rw [hi]; simp
    unfold Lib.splitK
    rw [if_neg hn, hi, spl_cut c a b ha]
    have e1 : ((a.length : Int)).toNat + 0 = a.length := by omega
    have e2 : ((a.length : Int)).toNat + [c].length = a.length + 1 := by simp
    rw [e1, e2, show (a ++ c :: b).take a.length = a by simp, show (a ++ c :: b).drop (a.length + 1) = b by
      rw [show a ++ c :: b = (a ++ [c]) ++ b by simp]
      rw [List.drop_append_of_le_length (by simp)]
      simp]
    rw [splitK_spl c k b hb]
theorem splitB_spl (c : UInt8) (s : ByteArray) : Lib.splitB ⟨#[c]⟩ 0 (Lib.countB s ⟨#[c]⟩) s = splB c s := by
  have h := Lib.splitB_data ⟨#[c]⟩ 0 (Lib.countB s ⟨#[c]⟩) s
  have hk : s.data.toList.count c = Lib.countB s ⟨#[c]⟩ := (Lib.count_one c s.data.toList).symm
  have e : (⟨#[c]⟩ : ByteArray).data.toList = [c] := rfl
  rw [e, splitK_spl c _ _ hk] at h
  unfold splB
  rw [← h, List.map_map]
  have : (mkB ∘ fun x : ByteArray => x.data.toList) = id := rfl
  rw [this, List.map_id]

/-! ### Words put together -/
def joinB (ws : List ByteArray) (c : UInt8) : ByteArray := mkB (Lib.join (ws.map (·.data.toList)) [c])
theorem joinB_one (x : ByteArray) (c : UInt8) : joinB [x] c = x := by
  unfold joinB; rw [List.map_cons, List.map_nil, Lib.join_one]; rfl
theorem joinB_more (x y : ByteArray) (r : List ByteArray) (c : UInt8) : joinB (x :: y :: r) c = (x ++ ⟨#[c]⟩) ++ joinB (y :: r) c := by
  unfold joinB
  apply ByteArray.ext
  rw [ByteArray.data_append, ByteArray.data_append]
  apply Array.ext'
  simp [mkB, Lib.join_cons, Lib.joinTail]
theorem spl_joinB (c : UInt8) (ws : List ByteArray) (h : ws ≠ []) (hc : ∀ x ∈ ws, c ∉ x.data.toList) : splB c (joinB ws c) = ws := by
  unfold splB joinB
  rw [list_mkB, spl_join c _ (by simpa using h) (by simpa using hc), List.map_map]
  have : (mkB ∘ fun x : ByteArray => x.data.toList) = id := rfl
  rw [this, List.map_id]

end Go.Proofs.YtebiidfpgdolnaaDoor.Dmp

namespace Go.Proofs
open Go.Shelf
def Tryd.lays156_ren : Go.Shelf.Ren := ⟨fun | 156 => 20 | 165 => 44 | 166 => 45 | 169 => 46 | 240 => 66 | 241 => 67 | 276 => 74 | 277 => 75 | n => n, fun | 31 => 50 | 9 => 9 | 3 => 3 | 4 => 4 | 0 => 0 | 20 => 20 | 72 => 72 | 76 => 76 | 70 => 70 | 37 => 64 | 75 => 75 | 127 => 99 | 164 => 105 | 5 => 5 | 80 => 78 | n => n, fun | n => n⟩
theorem Tryd.lays156 : Go.Proofs.Lays.n156 Tryd.prog Tryd.lays156_ren := {
  mixed := by kernel_rfl
  f156 := Tryd.func20.trans (congrArg some (by kernel_rfl))
  f165 := Tryd.func44.trans (congrArg some (by kernel_rfl))
  f166 := Tryd.func45.trans (congrArg some (by kernel_rfl))
  f169 := Tryd.func46.trans (congrArg some (by kernel_rfl))
  f240 := Tryd.func66.trans (congrArg some (by kernel_rfl))
  f241 := Tryd.func67.trans (congrArg some (by kernel_rfl))
  f276 := Tryd.func74.trans (congrArg some (by kernel_rfl))
  f277 := Tryd.func75.trans (congrArg some (by kernel_rfl))
  t0 := Tryd.underlying0
  a0 := Tryd.isAgg0
  z0 := Tryd.sizeOf0
  v0 := Tryd.zeroValue0
  t3 := Tryd.underlying3
  a3 := Tryd.isAgg3
  z3 := Tryd.sizeOf3
  v3 := Tryd.zeroValue3
  t4 := Tryd.underlying4
  a4 := Tryd.isAgg4
  z4 := Tryd.sizeOf4
  v4 := Tryd.zeroValue4
  t9 := Tryd.underlying9
  a9 := Tryd.isAgg9
  z9 := Tryd.sizeOf9
  v9 := Tryd.zeroValue9
  t20 := Tryd.underlying20
  a20 := Tryd.isAgg20
  z20 := Tryd.sizeOf20
  v20 := Tryd.zeroValue20
  t31 := Tryd.underlying50
  a31 := Tryd.isAgg50
  z31 := Tryd.sizeOf50
  v31 := Tryd.zeroValue50
  t37 := Tryd.underlying64
  a37 := Tryd.isAgg64
  z37 := Tryd.sizeOf64
  v37 := Tryd.zeroValue64
  t70 := Tryd.underlying70
  a70 := Tryd.isAgg70
  z70 := Tryd.sizeOf70
  v70 := Tryd.zeroValue70
  t72 := Tryd.underlying72
  a72 := Tryd.isAgg72
  z72 := Tryd.sizeOf72
  v72 := Tryd.zeroValue72
  t75 := Tryd.underlying75
  a75 := Tryd.isAgg75
  z75 := Tryd.sizeOf75
  v75 := Tryd.zeroValue75
  t76 := Tryd.underlying76
  a76 := Tryd.isAgg76
  z76 := Tryd.sizeOf76
  v76 := Tryd.zeroValue76
  t127 := Tryd.underlying99
  a127 := Tryd.isAgg99
  z127 := Tryd.sizeOf99
  v127 := Tryd.zeroValue99
  t164 := Tryd.underlying105
  a164 := Tryd.isAgg105
  z164 := Tryd.sizeOf105
  v164 := Tryd.zeroValue105 }
theorem Tryd.Builder_Extra_156 : Builder.Extra Tryd.prog Tryd.lays156_ren := {
  sizeBuilder := by kernel_rfl
  liesBuilder := by kernel_rfl
  t5 := Tryd.underlying5
  a5 := Tryd.isAgg5
  z5 := Tryd.sizeOf5
  v5 := Tryd.zeroValue5
  infoByte := by kernel_rfl
  cellsByte := by kernel_rfl
  sizeByte := by kernel_rfl
  neB5 := by decide }
open Go.RowKit Go.Lib in
theorem Tryd.strings_Join (bk o c : Nat) (xs : List ByteArray) (sep : ByteArray) (w : World) (hcells : ∀ (j : Nat) x, xs[j]? = some x → w.cell? ⟨bk, o + j, none⟩ = some (.string x)) (hbk : bk < w.heap.size) (hN : xs.length ≤ 140737488355328) (hcap : xs.length ≤ c) (hlen : (Lib.join (xs.map (·.data.toList)) sep.data.toList).length ≤ 140737488355328) :
    Calls Tryd.prog 20 #[.slice (some ⟨bk, o, none⟩) xs.length c, .string sep] w fun e w' => e = .returned (.string ⟨(Lib.join (xs.map (·.data.toList)) sep.data.toList).toArray⟩) ∧ Below w.heap.size w w' := Any.strings_Join Tryd.lays156 Tryd.Builder_Extra_156 bk o c xs sep w hcells hbk hN hcap hlen
def Tryd.lays137_ren : Go.Shelf.Ren := ⟨fun | 137 => 76 | 217 => 80 | 266 => 85 | n => n, fun | 9 => 9 | 5 => 5 | 3 => 3 | n => n, fun | n => n⟩
theorem Tryd.lays137 : Go.Proofs.Lays.n137 Tryd.prog Tryd.lays137_ren := {
  mixed := by kernel_rfl
  f137 := Tryd.func76.trans (congrArg some (by kernel_rfl))
  f217 := Tryd.func80.trans (congrArg some (by kernel_rfl))
  f266 := Tryd.func85.trans (congrArg some (by kernel_rfl))
  t3 := Tryd.underlying3
  a3 := Tryd.isAgg3
  z3 := Tryd.sizeOf3
  v3 := Tryd.zeroValue3
  t5 := Tryd.underlying5
  a5 := Tryd.isAgg5
  z5 := Tryd.sizeOf5
  v5 := Tryd.zeroValue5
  t9 := Tryd.underlying9
  a9 := Tryd.isAgg9
  z9 := Tryd.sizeOf9
  v9 := Tryd.zeroValue9 }
open Go.RowKit Go.Lib in
theorem Tryd.strings_IndexByte (s : ByteArray) (c : Int) (w : World) :
    Calls Tryd.prog 76 #[.string s, .int .u8 c] w fun e w' => e = .returned (.int .i64 (Lib.indexByte s.data.toList c.toNat.toUInt8)) ∧ w' = w := Any.strings_IndexByte Tryd.lays137 s c w
def Tryd.lays219_ren : Go.Shelf.Ren := ⟨fun | 219 => 72 | 217 => 80 | 225 => 81 | 224 => 82 | 267 => 83 | 266 => 85 | 314 => 86 | n => n, fun | 9 => 9 | 3 => 3 | 4 => 4 | 5 => 5 | 46 => 100 | 146 => 112 | 51 => 111 | n => n, fun | 1 => 0 | n => n⟩
theorem Tryd.lays219 : Go.Proofs.Lays.n219 Tryd.prog Tryd.lays219_ren := {
  mixed := by kernel_rfl
  f217 := Tryd.func80.trans (congrArg some (by kernel_rfl))
  f219 := Tryd.func72.trans (congrArg some (by kernel_rfl))
  f224 := Tryd.func82.trans (congrArg some (by kernel_rfl))
  f225 := Tryd.func81.trans (congrArg some (by kernel_rfl))
  f266 := Tryd.func85.trans (congrArg some (by kernel_rfl))
  f267 := Tryd.func83.trans (congrArg some (by kernel_rfl))
  f314 := Tryd.func86.trans (congrArg some (by kernel_rfl))
  t3 := Tryd.underlying3
  a3 := Tryd.isAgg3
  z3 := Tryd.sizeOf3
  v3 := Tryd.zeroValue3
  t4 := Tryd.underlying4
  a4 := Tryd.isAgg4
  z4 := Tryd.sizeOf4
  v4 := Tryd.zeroValue4
  t5 := Tryd.underlying5
  a5 := Tryd.isAgg5
  z5 := Tryd.sizeOf5
  v5 := Tryd.zeroValue5
  t9 := Tryd.underlying9
  a9 := Tryd.isAgg9
  z9 := Tryd.sizeOf9
  v9 := Tryd.zeroValue9
  t46 := Tryd.underlying100
  a46 := Tryd.isAgg100
  z46 := Tryd.sizeOf100
  v46 := Tryd.zeroValue100
  t51 := Tryd.underlying111
  a51 := Tryd.isAgg111
  z51 := Tryd.sizeOf111
  v51 := Tryd.zeroValue111
  t146 := Tryd.underlying112
  a146 := Tryd.isAgg112
  z146 := Tryd.sizeOf112
  v146 := Tryd.zeroValue112
  g1 := by kernel_rfl }
open Go.RowKit Go.Lib in
theorem Tryd.stringslite_Index_one (s : ByteArray) (c : UInt8) (w : World) :
    Calls Tryd.prog 72 #[.string s, .string ⟨#[c]⟩] w fun e w' => e = .returned (.int .i64 (Lib.indexByte s.data.toList c)) ∧ w' = w := Any.stringslite_Index_one Tryd.lays219 s c w
def Tryd.lays143_ren : Go.Shelf.Ren := ⟨fun | 143 => 71 | 219 => 72 | 217 => 80 | 225 => 81 | 224 => 82 | 267 => 83 | 266 => 85 | 314 => 86 | n => n, fun | 9 => 9 | 3 => 3 | 4 => 4 | 5 => 5 | 46 => 100 | 146 => 112 | 51 => 111 | n => n, fun | 1 => 0 | n => n⟩
theorem Tryd.lays143 : Go.Proofs.Lays.n143 Tryd.prog Tryd.lays143_ren := {
  mixed := by kernel_rfl
  f143 := Tryd.func71.trans (congrArg some (by kernel_rfl))
  f217 := Tryd.func80.trans (congrArg some (by kernel_rfl))
  f219 := Tryd.func72.trans (congrArg some (by kernel_rfl))
  f224 := Tryd.func82.trans (congrArg some (by kernel_rfl))
  f225 := Tryd.func81.trans (congrArg some (by kernel_rfl))
  f266 := Tryd.func85.trans (congrArg some (by kernel_rfl))
  f267 := Tryd.func83.trans (congrArg some (by kernel_rfl))
  f314 := Tryd.func86.trans (congrArg some (by kernel_rfl))
  t3 := Tryd.underlying3
  a3 := Tryd.isAgg3
  z3 := Tryd.sizeOf3
  v3 := Tryd.zeroValue3
  t4 := Tryd.underlying4
  a4 := Tryd.isAgg4
  z4 := Tryd.sizeOf4
  v4 := Tryd.zeroValue4
  t5 := Tryd.underlying5
  a5 := Tryd.isAgg5
  z5 := Tryd.sizeOf5
  v5 := Tryd.zeroValue5
  t9 := Tryd.underlying9
  a9 := Tryd.isAgg9
  z9 := Tryd.sizeOf9
  v9 := Tryd.zeroValue9
  t46 := Tryd.underlying100
  a46 := Tryd.isAgg100
  z46 := Tryd.sizeOf100
  v46 := Tryd.zeroValue100
  t51 := Tryd.underlying111
  a51 := Tryd.isAgg111
  z51 := Tryd.sizeOf111
  v51 := Tryd.zeroValue111
  t146 := Tryd.underlying112
  a146 := Tryd.isAgg112
  z146 := Tryd.sizeOf112
  v146 := Tryd.zeroValue112
  g1 := by kernel_rfl }
open Go.RowKit Go.Lib in
theorem Tryd.strings_Index_one (s : ByteArray) (c : UInt8) (w : World) :
    Calls Tryd.prog 71 #[.string s, .string ⟨#[c]⟩] w fun e w' => e = .returned (.int .i64 (Lib.indexByte s.data.toList c)) ∧ w' = w := Any.strings_Index_one Tryd.lays143 s c w
def Tryd.lays138_ren : Go.Shelf.Ren := ⟨fun | 138 => 70 | 195 => 77 | 218 => 79 | 143 => 71 | 219 => 72 | 217 => 80 | 225 => 81 | 224 => 82 | 267 => 83 | 266 => 85 | 314 => 86 | n => n, fun | 9 => 9 | 3 => 3 | 4 => 4 | 5 => 5 | 0 => 0 | 46 => 100 | 146 => 112 | 51 => 111 | n => n, fun | 1 => 0 | n => n⟩
theorem Tryd.lays138 : Go.Proofs.Lays.n138 Tryd.prog Tryd.lays138_ren := {
  mixed := by kernel_rfl
  f138 := Tryd.func70.trans (congrArg some (by kernel_rfl))
  f143 := Tryd.func71.trans (congrArg some (by kernel_rfl))
  f195 := Tryd.func77.trans (congrArg some (by kernel_rfl))
  f217 := Tryd.func80.trans (congrArg some (by kernel_rfl))
  f218 := Tryd.func79.trans (congrArg some (by kernel_rfl))
  f219 := Tryd.func72.trans (congrArg some (by kernel_rfl))
  f224 := Tryd.func82.trans (congrArg some (by kernel_rfl))
  f225 := Tryd.func81.trans (congrArg some (by kernel_rfl))
  f266 := Tryd.func85.trans (congrArg some (by kernel_rfl))
  f267 := Tryd.func83.trans (congrArg some (by kernel_rfl))
  f314 := Tryd.func86.trans (congrArg some (by kernel_rfl))
  t0 := Tryd.underlying0
  a0 := Tryd.isAgg0
  z0 := Tryd.sizeOf0
  v0 := Tryd.zeroValue0
  t3 := Tryd.underlying3
  a3 := Tryd.isAgg3
  z3 := Tryd.sizeOf3
  v3 := Tryd.zeroValue3
  t4 := Tryd.underlying4
  a4 := Tryd.isAgg4
  z4 := Tryd.sizeOf4
  v4 := Tryd.zeroValue4
  t5 := Tryd.underlying5
  a5 := Tryd.isAgg5
  z5 := Tryd.sizeOf5
  v5 := Tryd.zeroValue5
  t9 := Tryd.underlying9
  a9 := Tryd.isAgg9
  z9 := Tryd.sizeOf9
  v9 := Tryd.zeroValue9
  t46 := Tryd.underlying100
  a46 := Tryd.isAgg100
  z46 := Tryd.sizeOf100
  v46 := Tryd.zeroValue100
  t51 := Tryd.underlying111
  a51 := Tryd.isAgg111
  z51 := Tryd.sizeOf111
  v51 := Tryd.zeroValue111
  t146 := Tryd.underlying112
  a146 := Tryd.isAgg112
  z146 := Tryd.sizeOf112
  v146 := Tryd.zeroValue112
  g1 := by kernel_rfl }
open Go.RowKit Go.Lib in
theorem Tryd.strings_Count_one (s : ByteArray) (c : UInt8) (w : World) :
    Calls Tryd.prog 70 #[.string s, .string ⟨#[c]⟩] w fun e w' => e = .returned (.int .i64 (Lib.countByte s.data.toList c)) ∧ w' = w := Any.strings_Count_one Tryd.lays138 s c w
def Tryd.lays221_ren : Go.Shelf.Ren := ⟨fun | 221 => 57 | 268 => 69 | 138 => 70 | 143 => 71 | 195 => 77 | 197 => 78 | 218 => 79 | 219 => 72 | 260 => 84 | 217 => 80 | 225 => 81 | 224 => 82 | 267 => 83 | 266 => 85 | 314 => 86 | n => n, fun | 9 => 9 | 3 => 3 | 31 => 50 | 4 => 4 | 0 => 0 | 105 => 109 | 21 => 21 | 5 => 5 | 46 => 100 | 119 => 114 | 139 => 117 | 138 => 116 | 146 => 112 | 51 => 111 | n => n, fun | 1 => 0 | 3 => 1 | 4 => 2 | n => n⟩
theorem Tryd.lays221 : Go.Proofs.Lays.n221 Tryd.prog Tryd.lays221_ren := {
  mixed := by kernel_rfl
  f138 := Tryd.func70.trans (congrArg some (by kernel_rfl))
  f143 := Tryd.func71.trans (congrArg some (by kernel_rfl))
  f195 := Tryd.func77.trans (congrArg some (by kernel_rfl))
  f197 := Tryd.func78.trans (congrArg some (by kernel_rfl))
  f217 := Tryd.func80.trans (congrArg some (by kernel_rfl))
  f218 := Tryd.func79.trans (congrArg some (by kernel_rfl))
  f219 := Tryd.func72.trans (congrArg some (by kernel_rfl))
  f221 := Tryd.func57.trans (congrArg some (by kernel_rfl))
  f224 := Tryd.func82.trans (congrArg some (by kernel_rfl))
  f225 := Tryd.func81.trans (congrArg some (by kernel_rfl))
  f260 := Tryd.func84.trans (congrArg some (by kernel_rfl))
  f266 := Tryd.func85.trans (congrArg some (by kernel_rfl))
  f267 := Tryd.func83.trans (congrArg some (by kernel_rfl))
  f268 := Tryd.func69.trans (congrArg some (by kernel_rfl))
  f314 := Tryd.func86.trans (congrArg some (by kernel_rfl))
  t0 := Tryd.underlying0
  a0 := Tryd.isAgg0
  z0 := Tryd.sizeOf0
  v0 := Tryd.zeroValue0
  t3 := Tryd.underlying3
  a3 := Tryd.isAgg3
  z3 := Tryd.sizeOf3
  v3 := Tryd.zeroValue3
  t4 := Tryd.underlying4
  a4 := Tryd.isAgg4
  z4 := Tryd.sizeOf4
  v4 := Tryd.zeroValue4
  t5 := Tryd.underlying5
  a5 := Tryd.isAgg5
  z5 := Tryd.sizeOf5
  v5 := Tryd.zeroValue5
  t9 := Tryd.underlying9
  a9 := Tryd.isAgg9
  z9 := Tryd.sizeOf9
  v9 := Tryd.zeroValue9
  t21 := Tryd.underlying21
  a21 := Tryd.isAgg21
  z21 := Tryd.sizeOf21
  v21 := Tryd.zeroValue21
  t31 := Tryd.underlying50
  a31 := Tryd.isAgg50
  z31 := Tryd.sizeOf50
  v31 := Tryd.zeroValue50
  t46 := Tryd.underlying100
  a46 := Tryd.isAgg100
  z46 := Tryd.sizeOf100
  v46 := Tryd.zeroValue100
  t51 := Tryd.underlying111
  a51 := Tryd.isAgg111
  z51 := Tryd.sizeOf111
  v51 := Tryd.zeroValue111
  t105 := Tryd.underlying109
  a105 := Tryd.isAgg109
  z105 := Tryd.sizeOf109
  v105 := Tryd.zeroValue109
  t119 := Tryd.underlying114
  a119 := Tryd.isAgg114
  z119 := Tryd.sizeOf114
  t138 := Tryd.underlying116
  a138 := Tryd.isAgg116
  z138 := Tryd.sizeOf116
  v138 := Tryd.zeroValue116
  t139 := Tryd.underlying117
  a139 := Tryd.isAgg117
  z139 := Tryd.sizeOf117
  v139 := Tryd.zeroValue117
  t146 := Tryd.underlying112
  a146 := Tryd.isAgg112
  z146 := Tryd.sizeOf112
  v146 := Tryd.zeroValue112
  g1 := by kernel_rfl
  g3 := by kernel_rfl
  g4 := by kernel_rfl }
end Go.Proofs

namespace Go.Proofs.YtebiidfpgdolnaaDoor.Dmp
open Go.ChangeShapes Go.WideShapes Go.ChangeAt Go.RowKit Go.Deep
set_option linter.unusedVariables false
open Go.Lib Go.Shelf
set_option linter.unusedSimpArgs false

/-- dump.words of a frame that may be. -/
theorem words_any (ty st : Int) (en : Bool) (da : ByteArray) (ki on we : Int) (ex : Bool) (co la n : Int) (pv : Value) (ps : List (Int × Int)) (hC : checkB ⟨ty, st, en, da, ki, on, we, ex, co, la, n, ps⟩ = true) (w : World) (hP : Ps w pv ps) :
    Calls Tryd.prog 21 #[.agg #[.int .i64 ty, .int .i64 st, .bool en, .string da, .int .i64 ki, .int .i64 on, .int .i64 we, .bool ex, .int .i64 co, .int .i64 la, .int .i64 n, pv]] w fun e w' => ∃ v, e = .returned v ∧ w'.ownsRow (w.heap.size + 1) 9 1 v (wordsB ⟨ty, st, en, da, ki, on, we, ex, co, la, n, ps⟩).length (strW (wordsB ⟨ty, st, en, da, ki, on, we, ex, co, la, n, ps⟩)) ∧ Below w.heap.size w w' := by
  obtain ⟨hF, hty⟩ := fits_of_check _ _ _ _ _ _ _ _ _ _ _ _ hC
  have hc : ty = 0 ∨ ty = 1 ∨ ty = 2 ∨ ty = 3 ∨ ty = 4 ∨ ty = 5 ∨ ty = 6 ∨ ty = 7 ∨ ty = 8 ∨ ty = 9 ∨ ty = 10 ∨ ty = 11 := by omega
  rcases hc with rfl | rfl | rfl | rfl | rfl | rfl | rfl | rfl | rfl | rfl | rfl | rfl
  · exact words_0 _ _ _ _ _ _ _ _ _ _ pv ps hF w
  · exact words_1 _ _ _ _ _ _ _ _ _ _ pv ps hF w
  · exact words_2 _ _ _ _ _ _ _ _ _ _ pv ps hF w
  · exact words_3 _ _ _ _ _ _ _ _ _ _ pv ps hF w
  · exact words_4 _ _ _ _ _ _ _ _ _ _ pv ps hF w
  · exact words_5 _ _ _ _ _ _ _ _ _ _ pv ps hF w hP
  · exact words_6 _ _ _ _ _ _ _ _ _ _ pv ps hF w
  · exact words_7 _ _ _ _ _ _ _ _ _ _ pv ps hF w
  · exact words_8 _ _ _ _ _ _ _ _ _ _ pv ps hF w
  · exact words_9 _ _ _ _ _ _ _ _ _ _ pv ps hF w
  · exact words_10 _ _ _ _ _ _ _ _ _ _ pv ps hF w
  · exact words_11 _ _ _ _ _ _ _ _ _ _ pv ps hF w

/-! ### The words put together are the line -/
theorem pieces2 (a b : ByteArray) (c : UInt8) : joinB [a, b] c = (a ++ ⟨#[c]⟩) ++ b := by rw [joinB_more, joinB_one]
theorem pieces3 (a b d : ByteArray) (c : UInt8) : joinB [a, b, d] c = (a ++ ⟨#[c]⟩) ++ ((b ++ ⟨#[c]⟩) ++ d) := by rw [joinB_more, pieces2]
theorem pieces4 (a b d e : ByteArray) (c : UInt8) : joinB [a, b, d, e] c = (a ++ ⟨#[c]⟩) ++ ((b ++ ⟨#[c]⟩) ++ ((d ++ ⟨#[c]⟩) ++ e)) := by rw [joinB_more, pieces3]
theorem pieces5 (a b d e f : ByteArray) (c : UInt8) : joinB [a, b, d, e, f] c = (a ++ ⟨#[c]⟩) ++ ((b ++ ⟨#[c]⟩) ++ ((d ++ ⟨#[c]⟩) ++ ((e ++ ⟨#[c]⟩) ++ f))) := by rw [joinB_more, pieces4]
theorem pieces6 (a b d e f g : ByteArray) (c : UInt8) : joinB [a, b, d, e, f, g] c = (a ++ ⟨#[c]⟩) ++ ((b ++ ⟨#[c]⟩) ++ ((d ++ ⟨#[c]⟩) ++ ((e ++ ⟨#[c]⟩) ++ ((f ++ ⟨#[c]⟩) ++ g)))) := by rw [joinB_more, pieces5]
theorem joinB_snoc (c : UInt8) (y : ByteArray) : ∀ (x : ByteArray) (r : List ByteArray), joinB (x :: r ++ [y]) c = (joinB (x :: r) c ++ ⟨#[c]⟩) ++ y
  | x, [] => by show joinB [x, y] c = _; rw [pieces2, joinB_one]
  | x, z :: r => by
    show joinB (x :: z :: (r ++ [y])) c = _
    rw [joinB_more, joinB_more x z r, show z :: (r ++ [y]) = z :: r ++ [y] from rfl, joinB_snoc c y z r]
    simp only [ByteArray.append_assoc]
theorem sets_join : ∀ (k : Nat) (ps : List (Int × Int)), k ≤ ps.length → joinB (setWs ps k) 32 = setsTo ps k
  | 0, ps, _ => by
    show joinB [_] 32 = _
    rw [joinB_one]; rfl
  | k + 1, ps, h => by
    obtain ⟨p, hp⟩ : ∃ p, ps[k]? = some p := ⟨ps[k]'(by omega), List.getElem?_eq_getElem _⟩
    rw [setWs_next hp, setsTo_next hp, ← sets_join k ps (by omega)]
    unfold setWs
    rw [joinB_snoc]
    unfold setOne setW
    simp only [ByteArray.append_assoc]
theorem bcat (a b : ByteArray) (l m : List UInt8) (h : a.data.toList = l) (h2 : b.data.toList = m) : (a ++ b).data.toList = l ++ m := by
  rw [ByteArray.data_append]; simp [h, h2]
theorem beq_of_list {a b : ByteArray} (h : a.data.toList = b.data.toList) : a = b := by
  apply ByteArray.ext; apply Array.ext'; exact h
theorem join_line (ty st : Int) (en : Bool) (da : ByteArray) (ki on we : Int) (ex : Bool) (co la n : Int) (ps : List (Int × Int)) (hC : checkB ⟨ty, st, en, da, ki, on, we, ex, co, la, n, ps⟩ = true) : joinB (wordsB ⟨ty, st, en, da, ki, on, we, ex, co, la, n, ps⟩) 32 = lineB ⟨ty, st, en, da, ki, on, we, ex, co, la, n, ps⟩ := by
  obtain ⟨hF, hty⟩ := fits_of_check _ _ _ _ _ _ _ _ _ _ _ _ hC
  have hc : ty = 0 ∨ ty = 1 ∨ ty = 2 ∨ ty = 3 ∨ ty = 4 ∨ ty = 5 ∨ ty = 6 ∨ ty = 7 ∨ ty = 8 ∨ ty = 9 ∨ ty = 10 ∨ ty = 11 := by omega
  rcases hc with rfl | rfl | rfl | rfl | rfl | rfl | rfl | rfl | rfl | rfl | rfl | rfl
  case inr.inr.inr.inr.inr.inl =>
    show joinB (_ :: ps.map _) 32 = setsB ps
    have h := sets_join ps.length ps (Nat.le_refl _)
    unfold setWs setsTo at h
    rw [List.take_length] at h
    exact h
  all_goals
    simp only [wordsB, lineB, if_pos, if_neg, reduceCtorEq, Int.reduceEq, ↓reduceIte]
    (try by_cases hk : ki = 1)
    all_goals
      (try simp only [hk, if_true, if_false, ↓reduceIte, beq_self_eq_true, show (ki == 1) = decide (ki = 1) from rfl, decide_true, decide_false])
      cases en <;> cases ex <;>
      (simp only [joinB_one, pieces2, pieces3, pieces4, pieces5, pieces6, idB, ldepB, exB, endB, pkB, if_true, if_false, Bool.false_eq_true, ↓reduceIte] <;>
       (apply beq_of_list
        simp [ByteArray.data_append]))

end Go.Proofs.YtebiidfpgdolnaaDoor.Dmp

namespace Go.Proofs.YtebiidfpgdolnaaDoor.Dmp
open Go.ChangeShapes Go.WideShapes Go.ChangeAt Go.RowKit Go.Deep
set_option linter.unusedVariables false
open Go.Lib Go.Shelf
set_option linter.unusedSimpArgs false

theorem strW_cells (l : List ByteArray) : (l.map Value.string).toArray = (strW l).toArray := rfl
/-- strings.Split at a separator of one byte. -/
theorem gensplit_any (c : UInt8) (s : ByteArray) (hs : s.size < 4294967281) (w : World) :
    Calls Tryd.prog 57 #[.string s, .string ⟨#[c]⟩, .int .i64 0, .int .i64 (-1)] w fun e w' =>
      e = .returned (.slice (some ⟨w.heap.size, 0, none⟩) (splB c s).length (splB c s).length) ∧ w' = w.alloc (.cells (strW (splB c s)).toArray 9) := by
  have hle := Lib.countB_le ⟨#[c]⟩ (Nat.le_refl 1) s.size s (Nat.le_refl _)
  have hlen := Lib.splitB_all ⟨#[c]⟩ (Nat.le_refl 1) 0 _ s rfl
  have h := Any.strings_genSplit_core Tryd.lays221 (by kernel_rfl) s ⟨#[c]⟩ 0 (-1) (Lib.countB s ⟨#[c]⟩ + 1) w hs (Nat.le_refl 1) (Nat.zero_le _)
    (fun x cs _ => Tryd.strings_Index_one x c (w.alloc (.cells cs 9)) |>.mono fun e w' h => ⟨by rw [h.1]; show _ = Ending.returned (Value.int .i64 (Lib.index x.data.toList [c])); rw [Lib.index_one], h.2⟩)
    (Tryd.strings_Count_one s c w |>.mono fun e w' h => ⟨by rw [h.1]; show _ = Ending.returned (Value.int .i64 ((Lib.count s.data.toList [c] : Nat) : Int)); rw [Lib.count_one]; rfl, h.2⟩)
    (by decide) (by decide) (by rw [if_pos (by decide)]; omega)
  rw [Nat.add_sub_cancel, splitB_spl] at h
  have e2 : Lib.cellsOf (splB c s) (Lib.countB s ⟨#[c]⟩ + 1) = (strW (splB c s)).toArray := by
    rw [← splitB_spl, ← hlen]; exact Lib.cellsOf_full _
  rw [e2] at h
  have e3 : Lib.countB s ⟨#[c]⟩ + 1 = (splB c s).length := by rw [← splitB_spl, hlen]
  rw [e3] at h
  exact h
set_option maxRecDepth 100000 in
theorem split_any (c : UInt8) (s : ByteArray) (hs : s.size < 4294967281) (w : World) :
    Calls Tryd.prog 32 #[.string s, .string ⟨#[c]⟩] w fun e w' =>
      e = .returned (.slice (some ⟨w.heap.size, 0, none⟩) (splB c s).length (splB c s).length) ∧ w' = w.alloc (.cells (strW (splB c s)).toArray 9) := by
  go_enter Tryd.func32, Tryd.ntmps32
  go_wp2_with fail
  refine (gensplit_any c s hs w).mono ?_
  rintro e w1 ⟨rfl, rfl⟩
  go_wp2_with fail
  go_ret
  exact ⟨rfl, rfl⟩

/-- strings.Cut at a separator of one byte: what it is used for: a word of settings. -/
def CutIs (c : UInt8) (s : ByteArray) (e : Ending) : Prop := ∃ (a b : ByteArray) (k : Bool), e = .returned (.tuple #[.string a, .string b, .bool k]) ∧ a.size ≤ s.size ∧ b.size ≤ s.size ∧
  (∀ x y : ByteArray, s = (x ++ ⟨#[c]⟩) ++ y → c ∉ x.data.toList → a = x ∧ b = y ∧ k = true) ∧ (c ∉ s.data.toList → k = false)
theorem hit_of (c : UInt8) (x y : ByteArray) (h : c ∉ x.data.toList) : Lib.indexByte ((x ++ ⟨#[c]⟩) ++ y).data.toList c = x.size := by
  have e : ((x ++ ⟨#[c]⟩) ++ y).data.toList = x.data.toList ++ c :: y.data.toList := by
    rw [ByteArray.data_append, ByteArray.data_append]; simp
  rw [e, indexByte_hit c _ _ h]
  simp
set_option maxRecDepth 100000 in
set_option maxHeartbeats 1600000 in
theorem slcut_any (c : UInt8) (s : ByteArray) (hs : s.size ≤ 100000) (w : World) :
    Calls Tryd.prog 60 #[.string s, .string ⟨#[c]⟩] w fun e w' => CutIs c s e ∧ ∃ m, w' = w.drewN m := by
  by_cases hc : c ∈ s.data.toList
  · obtain ⟨a, b, hab, ha⟩ := split_at c _ hc
    have hi : Lib.indexByte s.data.toList c = a.length := by rw [hab, indexByte_hit c a b ha]
    have hsz : s.size = a.length + 1 + b.length := by
      have : s.data.toList.length = s.size := by simp
      rw [← this, hab]; simp; omega
    obtain ⟨i, hil⟩ : ∃ i, a.length = i := ⟨_, rfl⟩
    have h1 : s.extract 0 i = mkB a := by
      apply ByteArray.ext; apply Array.ext'
      have := Lib.extract_from_zero s i
      rw [this, hab, ← hil]; simp [mkB]
    have h2 : s.extract (i + 1) s.size = mkB b := by
      apply ByteArray.ext; apply Array.ext'
      have := Lib.extract_to_end s (i + 1)
      rw [this, hab, ← hil]; simp [mkB]
    have hx : ∀ x y : ByteArray, s = (x ++ ⟨#[c]⟩) ++ y → c ∉ x.data.toList → mkB a = x ∧ mkB b = y ∧ true = true := by
      intro x y hxy hx
      have e := hit_of c x y hx
      rw [← hxy, hi] at e
      have el : a.length = x.size := by omega
      have e2 : s.data.toList = x.data.toList ++ c :: y.data.toList := by rw [hxy, ByteArray.data_append, ByteArray.data_append]; simp
      rw [hab] at e2
      have e3 : a = x.data.toList ∧ c :: b = c :: y.data.toList := List.append_inj e2 (by rw [el]; simp)
      exact ⟨by rw [e3.1]; rfl, by rw [(List.cons.inj e3.2).2]; rfl, rfl⟩
    have hal : a.length ≤ s.size ∧ b.length ≤ s.size := by omega
    have hout : CutIs c s (.returned (.tuple #[.string (s.extract 0 i), .string (s.extract (i + 1) s.size), .bool true])) := by
      rw [h1, h2]
      exact ⟨_, _, _, rfl, hal.1, hal.2, hx, fun h => absurd hc h⟩
    rw [hil] at hi hsz
    have c0 : ¬ (i : Int) < 0 := by omega
    have c1 : (0 : Int) ≤ (i : Int) := by omega
    have c2 : (i : Int) ≤ (s.size : Int) := by omega
    have c3 : (0 : Int) ≤ (i : Int) + 1 := by omega
    have c4 : (i : Int) + 1 ≤ (s.size : Int) := by omega
    have w1 : IntKind.i64.wrap ((i : Int) + 1) = (i : Int) + 1 := IntWalk.i64_in _ (by omega)
    have n1 : ((i : Int) + 1).toNat = i + 1 := by omega
    have n2 : i ≤ s.size := by omega
    have n3 : i + 1 ≤ s.size := by omega
    have hq := Tryd.stringslite_Index_one s c w
    rw [hi] at hq
    have HX := Lib.hid (And.intro hq hout)
    clear hq hout hx hi hsz hab ha hal h1 h2 hil hc
    go_enter Tryd.func60, Tryd.ntmps60
    go_wp2_with fail
    refine HX.out.1.mono ?_
    rintro e w1 ⟨rfl, rfl⟩
    go_wp2_with fail
    go_quiet (fail)
    go_wp2_with fail
    go_ret3
    exact ⟨HX.out.2, nq, rfl⟩
  · have hi := indexByte_miss c _ hc
    have hx : CutIs c s (.returned (.tuple #[.string s, .string ByteArray.empty, .bool false])) :=
      ⟨s, _, _, rfl, Nat.le_refl _, Nat.zero_le _, fun x y hxy hx => absurd (by rw [hxy, ByteArray.data_append, ByteArray.data_append]; simp) hc, fun _ => rfl⟩
    have hq := Tryd.stringslite_Index_one s c w
    rw [hi] at hq
    have HX := Lib.hid (And.intro hq hx)
    clear hq hx hi hc
    go_enter Tryd.func60, Tryd.ntmps60
    go_wp2_with fail
    refine HX.out.1.mono ?_
    rintro e w1 ⟨rfl, rfl⟩
    go_wp2_with fail
    go_ret3
    exact ⟨HX.out.2, 0, rfl⟩
set_option maxRecDepth 100000 in
theorem cut_any (c : UInt8) (s : ByteArray) (hs : s.size ≤ 100000) (w : World) :
    Calls Tryd.prog 38 #[.string s, .string ⟨#[c]⟩] w fun e w' => CutIs c s e ∧ ∃ m, w' = w.drewN m := by
  have h := slcut_any c s hs w
  have HX := Lib.hid h
  clear h
  go_enter Tryd.func38, Tryd.ntmps38
  go_wp2_with fail
  refine HX.out.mono ?_
  rintro e w1 ⟨⟨a, b, k, rfl, hc⟩, m, rfl⟩
  have HC := Lib.hid hc
  clear hc
  go_wp2_with fail
  go_ret3
  exact ⟨⟨a, b, k, rfl, HC.out⟩, m, rfl⟩

end Go.Proofs.YtebiidfpgdolnaaDoor.Dmp

namespace Go.Proofs.YtebiidfpgdolnaaDoor.Dmp
open Go.ChangeShapes Go.WideShapes Go.ChangeAt Go.RowKit Go.Deep
set_option linter.unusedVariables false
open Go.Lib Go.Shelf
set_option linter.unusedSimpArgs false

theorem exB_size (b : Bool) : (exB b).size = 6 := by cases b <;> rfl
theorem endB_size (b : Bool) : (endB b).size ≤ 5 := by cases b <;> decide
theorem line_size (ty st : Int) (en : Bool) (da : ByteArray) (ki on we : Int) (ex : Bool) (co la n : Int) (ps : List (Int × Int)) (hC : checkB ⟨ty, st, en, da, ki, on, we, ex, co, la, n, ps⟩ = true) : (lineB ⟨ty, st, en, da, ki, on, we, ex, co, la, n, ps⟩).size ≤ 2000 := by
  obtain ⟨⟨f1, f2, f3, f4, f5, f6, f7, f8, f9⟩, hty⟩ := fits_of_check _ _ _ _ _ _ _ _ _ _ _ _ hC
  simp only at f1 f2 f3 f4 f5 f6 f7 f8 f9
  have a1 := dgN_size f1
  have a2 := dgN_size f2
  have a3 := dgN_size f3
  have a4 := dgN_size f4
  have a5 := dgN_size f5
  have a6 := dgN_size f6
  have a7 := hexB_size da
  have a8 := exB_size ex
  have a9 := endB_size en
  have b1 := idB_size f1
  have b2 := ldepB_size f2 f3 ex
  have b3 := setsTo_size ps f9 ps.length
  have b4 : setsTo ps ps.length = setsB ps := by unfold setsTo; rw [List.take_length]
  rw [b4] at b3
  have l0 : (⟨#[100, 97, 116, 97]⟩ : ByteArray).size = 4 := rfl
  have l1 : (⟨#[105, 116, 101, 109]⟩ : ByteArray).size = 4 := rfl
  have l2 : (⟨#[111, 112, 101, 110]⟩ : ByteArray).size = 4 := rfl
  have l3 : (⟨#[32, 98, 121, 116, 101, 115]⟩ : ByteArray).size = 6 := rfl
  have l4 : (⟨#[32, 105, 116, 101, 109, 115]⟩ : ByteArray).size = 6 := rfl
  have l5 : (⟨#[112, 114, 105, 111, 114, 105, 116, 121]⟩ : ByteArray).size = 8 := rfl
  have l6 : (⟨#[114, 101, 115, 101, 116]⟩ : ByteArray).size = 5 := rfl
  have l7 : (⟨#[97, 99, 107]⟩ : ByteArray).size = 3 := rfl
  have l8 : (⟨#[112, 105, 110, 103, 32]⟩ : ByteArray).size = 5 := rfl
  have l9 : (⟨#[112, 111, 110, 103, 32]⟩ : ByteArray).size = 5 := rfl
  have l10 : (⟨#[103, 111, 97, 119, 97, 121, 32]⟩ : ByteArray).size = 7 := rfl
  have l11 : (⟨#[119, 105, 110, 100, 111, 119]⟩ : ByteArray).size = 6 := rfl
  have l12 : (⟨#[114, 101, 113, 117, 101, 115, 116]⟩ : ByteArray).size = 7 := rfl
  have l13 : (⟨#[32]⟩ : ByteArray).size = 1 := rfl
  have hc : ty = 0 ∨ ty = 1 ∨ ty = 2 ∨ ty = 3 ∨ ty = 4 ∨ ty = 5 ∨ ty = 6 ∨ ty = 7 ∨ ty = 8 ∨ ty = 9 ∨ ty = 10 ∨ ty = 11 := by omega
  rcases hc with rfl | rfl | rfl | rfl | rfl | rfl | rfl | rfl | rfl | rfl | rfl | rfl
  case inr.inr.inl =>
    by_cases hk : ki = 1
    · simp only [lineB, hk, Int.reduceEq, ↓reduceIte, ByteArray.size_append]
      omega
    · simp only [lineB, hk, Int.reduceEq, ↓reduceIte, ByteArray.size_append]
      omega
  all_goals
    simp only [lineB, Int.reduceEq, ↓reduceIte, ByteArray.size_append]
    omega

theorem words_len (ty st : Int) (en : Bool) (da : ByteArray) (ki on we : Int) (ex : Bool) (co la n : Int) (ps : List (Int × Int)) (hC : checkB ⟨ty, st, en, da, ki, on, we, ex, co, la, n, ps⟩ = true) : 0 < (wordsB ⟨ty, st, en, da, ki, on, we, ex, co, la, n, ps⟩).length ∧ (wordsB ⟨ty, st, en, da, ki, on, we, ex, co, la, n, ps⟩).length ≤ 10 := by
  obtain ⟨⟨f1, f2, f3, f4, f5, f6, f7, f8, f9⟩, hty⟩ := fits_of_check _ _ _ _ _ _ _ _ _ _ _ _ hC
  simp only at f8
  have hc : ty = 0 ∨ ty = 1 ∨ ty = 2 ∨ ty = 3 ∨ ty = 4 ∨ ty = 5 ∨ ty = 6 ∨ ty = 7 ∨ ty = 8 ∨ ty = 9 ∨ ty = 10 ∨ ty = 11 := by omega
  rcases hc with rfl | rfl | rfl | rfl | rfl | rfl | rfl | rfl | rfl | rfl | rfl | rfl
  all_goals
    simp only [wordsB, Int.reduceEq, ↓reduceIte, List.length_cons, List.length_nil, List.length_map]
    omega

/-- What dump.Line answers. -/
def lineR (f : Fr) : ByteArray := if checkB f = true then lineB f else ByteArray.empty
set_option maxRecDepth 100000 in
set_option maxHeartbeats 3200000 in
theorem dline_any (ty st : Int) (en : Bool) (da : ByteArray) (ki on we : Int) (ex : Bool) (co la n : Int) (pv : Value) (ps : List (Int × Int)) (hn : ps.length ≤ 30000) (w : World) (hP : Ps w pv ps) :
    Calls Tryd.prog 9 #[.agg #[.int .i64 ty, .int .i64 st, .bool en, .string da, .int .i64 ki, .int .i64 on, .int .i64 we, .bool ex, .int .i64 co, .int .i64 la, .int .i64 n, pv]] w fun e w' => e = .returned (.tuple #[.string (lineR ⟨ty, st, en, da, ki, on, we, ex, co, la, n, ps⟩), .int .i64 (checkE ⟨ty, st, en, da, ki, on, we, ex, co, la, n, ps⟩)]) ∧ Below w.heap.size w w' := by
  have hbw : Below w.heap.size w (w.alloc (.cells #[.int .i64 ty, .int .i64 st, .bool en, .string da, .int .i64 ki, .int .i64 on, .int .i64 we, .bool ex, .int .i64 co, .int .i64 la, .int .i64 n, pv] 26)) := (Below.refl _ w).alloc (Nat.le_refl _) _
  have hP1 : Ps (w.alloc (.cells #[.int .i64 ty, .int .i64 st, .bool en, .string da, .int .i64 ki, .int .i64 on, .int .i64 we, .bool ex, .int .i64 co, .int .i64 la, .int .i64 n, pv] 26)) pv ps := RdL.below hP hbw
  have hck := check_any ty st en da ki on we ex co la n pv ps hn _ hP1
  have hbk := Blk.new w 26 #[.int .i64 ty, .int .i64 st, .bool en, .string da, .int .i64 ki, .int .i64 on, .int .i64 we, .bool ex, .int .i64 co, .int .i64 la, .int .i64 n, pv]
  cases hC : checkB ⟨ty, st, en, da, ki, on, we, ex, co, la, n, ps⟩ with
  | false =>
    have hE : checkE ⟨ty, st, en, da, ki, on, we, ex, co, la, n, ps⟩ = 2 := by unfold checkE; rw [hC]; rfl
    have hR : lineR ⟨ty, st, en, da, ki, on, we, ex, co, la, n, ps⟩ = ByteArray.empty := by unfold lineR; rw [hC]; rfl
    rw [hE] at hck
    rw [hE, hR]
    have HX := Lib.hid (And.intro hck hbw)
    clear hck hbw hP hP1 hbk hE hR hC
    go_enter Tryd.func9, Tryd.ntmps9
    go_wp2_with fail
    refine HX.out.1.mono ?_
    rintro e w1 ⟨rfl, hm1⟩
    have hB := HX.out.2.trans (hm1.mono HX.out.2.size)
    have HB := Lib.hid hB
    clear hB hm1
    go_wp2_with fail
    go_ret2
    exact ⟨rfl, HB.out⟩
  | true =>
    have hE : checkE ⟨ty, st, en, da, ki, on, we, ex, co, la, n, ps⟩ = 0 := by unfold checkE; rw [hC]; rfl
    have hR : lineR ⟨ty, st, en, da, ki, on, we, ex, co, la, n, ps⟩ = lineB ⟨ty, st, en, da, ki, on, we, ex, co, la, n, ps⟩ := by unfold lineR; rw [hC]; rfl
    rw [hE] at hck
    rw [hE, hR]
    have hj := join_line _ _ _ _ _ _ _ _ _ _ _ _ hC
    have hs := line_size _ _ _ _ _ _ _ _ _ _ _ _ hC
    have hne := (words_len _ _ _ _ _ _ _ _ _ _ _ _ hC).1
    have hw : ∀ w1, Ps w1 pv ps → Calls Tryd.prog 21 #[.agg #[.int .i64 ty, .int .i64 st, .bool en, .string da, .int .i64 ki, .int .i64 on, .int .i64 we, .bool ex, .int .i64 co, .int .i64 la, .int .i64 n, pv]] w1 fun e w' => ∃ v, e = .returned v ∧ w'.ownsRow (w1.heap.size + 1) 9 1 v (wordsB ⟨ty, st, en, da, ki, on, we, ex, co, la, n, ps⟩).length (strW (wordsB ⟨ty, st, en, da, ki, on, we, ex, co, la, n, ps⟩)) ∧ Below w1.heap.size w1 w' := fun w1 h => words_any _ _ _ _ _ _ _ _ _ _ _ pv ps hC w1 h
    have hl9 := (words_len _ _ _ _ _ _ _ _ _ _ _ _ hC).2
    have HX := Lib.hid (And.intro hck (And.intro hbw (And.intro hP1 (And.intro hbk (And.intro hj (And.intro hs (And.intro hne (And.intro hw hl9))))))))
    clear hck hbw hP hP1 hbk hE hR hC hj hs hne hw hl9
    go_enter Tryd.func9, Tryd.ntmps9
    go_wp2_with fail
    refine HX.out.1.mono ?_
    rintro e w1 ⟨rfl, hm1⟩
    have hB := HX.out.2.1.trans (hm1.mono HX.out.2.1.size)
    have k1 := HX.out.2.2.2.1.below hm1 HX.out.2.2.2.1.lt
    have hP2 : Ps w1 pv ps := RdL.below HX.out.2.2.1 hm1
    obtain ⟨c0, c1, c2, c3, c4, c5, c6, c7, c8, c9, c10, c11⟩ := Box.of _ _ _ _ _ _ _ _ _ _ _ _ k1
    have HB := Lib.hid (And.intro hB hP2)
    clear hB hm1 k1 hP2
    go_wp2_with fail
    refine (HX.out.2.2.2.2.2.2.2.1 _ HB.out.2).mono ?_
    rintro e w2 ⟨v, rfl, hown, hm2⟩
    have hB2 := HB.out.1.trans (hm2.mono HB.out.1.size)
    obtain ⟨b, off, cap, rfl, hcap, -, hb2, hcs⟩ := (RdL.owned (lo := 0) hown (Nat.zero_le _)).some_of HX.out.2.2.2.2.2.2.1
    have hjo := Tryd.strings_Join b off cap (wordsB ⟨ty, st, en, da, ki, on, we, ex, co, la, n, ps⟩) ⟨#[32]⟩ w2 (fun j x hx => hcs j _ (by unfold strW; rw [List.getElem?_map, hx]; rfl)) hb2 (Nat.le_trans HX.out.2.2.2.2.2.2.2.2 (by decide)) hcap
      (by have h1 := HX.out.2.2.2.2.2.1
          have h2 := HX.out.2.2.2.2.1
          have h3 : (joinB (wordsB ⟨ty, st, en, da, ki, on, we, ex, co, la, n, ps⟩) 32).size = (Lib.join ((wordsB ⟨ty, st, en, da, ki, on, we, ex, co, la, n, ps⟩).map (·.data.toList)) [32]).length := by unfold joinB mkB; simp [ByteArray.size]
          rw [h2] at h3
          show (Lib.join ((wordsB ⟨ty, st, en, da, ki, on, we, ex, co, la, n, ps⟩).map (·.data.toList)) [32]).length ≤ _
          omega)
    have hjo2 : Calls Tryd.prog 20 #[.slice (some ⟨b, off, none⟩) (wordsB ⟨ty, st, en, da, ki, on, we, ex, co, la, n, ps⟩).length cap, .string ⟨#[32]⟩] w2 fun e w' => e = .returned (.string (lineB ⟨ty, st, en, da, ki, on, we, ex, co, la, n, ps⟩)) ∧ Below w2.heap.size w2 w' := by
      rw [← HX.out.2.2.2.2.1]
      exact hjo
    have H2 := Lib.hid (And.intro hB2 hjo2)
    clear hB2 hm2 hown hcap hb2 hcs hjo hjo2 c0 c1 c2 c3 c4 c5 c6 c7 c8 c9 c10 c11
    go_wp2_with fail
    refine H2.out.2.mono ?_
    rintro e w3 ⟨rfl, hm3⟩
    have hB3 := H2.out.1.trans (hm3.mono H2.out.1.size)
    have H3 := Lib.hid hB3
    clear hB3 hm3
    go_wp2_with fail
    go_ret2
    exact ⟨rfl, H3.out⟩

end Go.Proofs.YtebiidfpgdolnaaDoor.Dmp
