import Derived.Test.YtdcdfhonkjmpeaaChunkCut
namespace Go.Proofs.Ytdcdfhonkjmpeaa.Chunk
open Go.ChangeShapes Go.WideShapes Go.ChangeAt Go.RowKit Go.Deep
set_option linter.unusedVariables false
open Go.Lib

def strLen : Value → Nat
  | .string s => s.size
  | _ => 0

theorem more_iff (N k j : Nat) (hk : 1 ≤ k) : j + 1 < manyN N k ↔ (j + 1) * k < N := by
  unfold manyN
  split
  · rename_i h
    subst h
    constructor
    · intro h; omega
    · intro h; omega
  · rename_i h
    rw [show j + 1 < (N - 1) / k + 1 ↔ j + 1 ≤ (N - 1) / k by omega, Nat.le_div_iff_mul_le hk]
    omega

theorem head_piece (x : ByteArray) (L : List UInt8) (k j m : Nat) (hx : x.data.toList = L.drop (j * k)) (hm : j + 1 < m) : (⟨#[1]⟩ ++ x.extract 0 k : ByteArray) = pieceOf (decide (j + 1 = m)) ((L.drop (j * k)).take k) := by
  have hd : decide (j + 1 = m) = false := by simp; omega
  rw [hd]
  apply ByteArray.ext
  apply Array.ext'
  simp [pieceOf, ByteArray.data_append, ByteArray.data_extract, hx]

theorem last_piece (x : ByteArray) (L : List UInt8) (k j m : Nat) (hx : x.data.toList = L.drop (j * k)) (hm : j + 1 = m) (hl : x.size ≤ k) : (⟨#[0]⟩ ++ x : ByteArray) = pieceOf (decide (j + 1 = m)) ((L.drop (j * k)).take k) := by
  have hd : decide (j + 1 = m) = true := by simp; omega
  have hlen : x.data.toList.length = x.size := Array.length_toList
  rw [hd, ← hx, List.take_of_length_le (by omega)]
  apply ByteArray.ext
  apply Array.ext'
  simp [pieceOf, ByteArray.data_append]

theorem drop_piece (x : ByteArray) (L : List UInt8) (k j : Nat) (hx : x.data.toList = L.drop (j * k)) : (x.extract k x.size).data.toList = L.drop ((j + 1) * k) := by
  have hlen : x.data.toList.length = x.size := Array.length_toList
  have e : (j + 1) * k = j * k + k := by rw [Nat.add_mul]; omega
  rw [ByteArray.data_extract, Array.toList_extract, List.extract_eq_take_drop, List.take_of_length_le (by simp), hx, List.drop_drop, e]

/-- Behind an append to a row of the call's own, of what lies in a new block. -/
theorem app_below {B B' : Nat} {w0 w1 w5 : World} {e : TypeId} {z n : Nat} {v : Value} {xs : List Value} (hb : Below B w0 w1) (hs : B ≤ w1.heap.size) (o : Obj) (hown : w1.ownsRow B' e z v n xs) (hBB : B ≤ B') (hg : (w1.alloc o).grownBy w5 v.ownBlock) : Below B w0 w5 :=
  (hb.alloc hs o).grown hg (by simp; omega) (fun k hk => Nat.le_trans hBB (hown.lt k hk).1)

set_option maxRecDepth 100000 in
set_option maxHeartbeats 1600000 in
theorem refcut_ok (s : ByteArray) (size : Int) (k m : Nat) (hk : size - 1 = (k : Int)) (h1 : 1 ≤ k) (h2 : k ≤ 255) (hs : s.size ≤ 65536) (hm : m = manyN s.size k) (w : World) :
    Calls Try.prog 19 #[.string s, .int .i64 size] w fun e w' => ∃ v, e = .returned v ∧ w'.ownsRow w.heap.size 9 1 v m (strs (piecesTo s.data.toList k m m)) ∧ Below w.heap.size w w' := by
  obtain ⟨B, hB⟩ : ∃ B, w.heap.size = B := ⟨_, rfl⟩
  have hlen : s.data.toList.length = s.size := Array.length_toList
  have hmp := manyN_pos s.size k
  have hml := manyN_le s.size k hs
  have hmi : ∀ j, j + 1 < m ↔ (j + 1) * k < s.size := fun j => by rw [hm]; exact more_iff _ _ j h1
  have hmo : ∀ i, i < m → i * k ≤ s.size := fun i hi => manyN_off _ _ i h1 (hm ▸ hi)
  rw [← hm] at hmp hml
  have hw1 : IntKind.i64.wrap (size - 1) = (k : Int) := by rw [hk]; exact IntWalk.i64_in _ (by omega)
  obtain ⟨i9, hi9, hz0, hz1, hz2⟩ := info_parts info9
  have hw0 : Below B w w := Below.refl _ _
  rw [hB]
  have hk0 : (0 : Int) ≤ (k : Int) := by omega
  have HF := Lib.hid (And.intro hlen (And.intro h1 (And.intro h2 (And.intro hs (And.intro hmi (And.intro hmo (And.intro hmp hml)))))))
  clear hk h1 h2 hs hm hmp hml hmo hmi hlen
  have HB := Lib.hid hB
  clear hB
  go_enter Try.func19, Try.ntmps19
  go_wp2_with fail
  go_loopw [0, 5] (fun x out wr => ∃ (j : Nat) (y : ByteArray), j < m ∧ x = .string y ∧ y.data.toList = s.data.toList.drop (j * k) ∧ wr.ownsRow B 9 1 out j (strs (piecesTo s.data.toList k m j)) ∧ Below B w wr) (fun x _ _ => strLen x)
  case atStart => exact ⟨0, s, by have := HF.out; omega, rfl, by simp, World.ownsRow_nil _ _ _ _, hw0⟩
  case round =>
    clear hw0
    obtain ⟨j, y, hj, rfl, hy, hown, hbel⟩ := hrel
    have hys : y.size + j * k = s.size := by
      have h3 : y.data.toList.length = y.size := Array.length_toList
      have := HF.out.1
      have h4 := HF.out.2.2.2.2.2.1 j hj
      rw [← h3, hy, List.length_drop]; omega
    have hsz : B ≤ wr.heap.size := by rw [← HB.out]; exact hbel.size
    have hmul : (j + 1) * k = j * k + k := by rw [Nat.add_mul]; omega
    have hin : (j + 1 < m ∧ k < y.size) ∨ (j + 1 = m ∧ ¬ k < y.size) := by
      have := HF.out.2.2.2.2.1 j
      by_cases hc : j + 1 < m
      · exact .inl ⟨hc, by have := this.1 hc; omega⟩
      · exact .inr ⟨by omega, fun h => hc (this.2 (by omega))⟩
    rcases hin with ⟨hlt, hks⟩ | ⟨hlt, hks⟩
    · have hks' : (k : Int) < (y.size : Int) := by omega
      have hks'' : (k : Int) ≤ (y.size : Int) := by omega
      have hp := head_piece y _ k j m hy hlt
      have hdp := drop_piece y _ k j hy
      have hds : (y.extract k y.size).size < y.size := by
        have := HF.out
        simp; omega
      have hml : m ≤ 65537 := HF.out.2.2.2.2.2.2.2
      have hfit : ¬ 9223372036854775807 < 1 + min k y.size := by have := HF.out.2.2.1; omega
      have HP := Lib.hid (And.intro hp (And.intro hdp (And.intro hds (And.intro hys (And.intro hmul hy)))))
      clear hp hdp hds hys hmul hy
      have HOWN := Lib.hid hown
      clear hown
      have HBEL := Lib.hid hbel
      clear hbel
      go_wp2_with (at_builtin; refine wpList_append_own _ rfl _ _ 22 rfl B 9 i9 _ 1 16 und22 hi9 hz0 hz1 hz2 rfl (by omega) _ j _ rfl (HOWN.out.alloc _) ⟨wr.heap.size, 0, none⟩ 1 1 [.string _] rfl rfl (one_cell (Blk.new wr 9 _)) (by simp [Value.oneCell']) (by unfold maxLen; omega) (by omega) (by simp; omega) ?_)
      intro v' w5 hown5 hg5 hiff
      have hb5 := app_below HBEL.out hsz _ HOWN.out (Nat.le_refl _) hg5
      have HR := Lib.hid (And.intro hown5 hb5)
      clear hown5 hg5 hb5 hiff
      go_wp2_with fail
      go_roundw
      case rel => exact ⟨j + 1, _, by omega, rfl, HP.out.2.1, by rw [strs_succ, ← HP.out.1]; exact HR.out.1, HR.out.2⟩
      case measure => exact HP.out.2.2.1
    · have hks' : ¬ (k : Int) < (y.size : Int) := by omega
      have hp := last_piece y _ k j m hy hlt (by omega)
      have hml : m ≤ 65537 := HF.out.2.2.2.2.2.2.2
      have hfit : ¬ 9223372036854775807 < 1 + y.size := by have := HF.out.2.2.1; omega
      have he : strs (piecesTo s.data.toList k m m) = strs (piecesTo s.data.toList k m j) ++ [Value.string (⟨#[0]⟩ ++ y)] := by
        have h := strs_succ s.data.toList k m j
        rw [← hp] at h
        rw [hlt] at h
        exact h
      have HE := Lib.hid he
      clear he
      have HP := Lib.hid (And.intro hp (And.intro hys (And.intro hmul hy)))
      clear hp hys hmul hy
      have HOWN := Lib.hid hown
      clear hown
      have HBEL := Lib.hid hbel
      clear hbel
      go_wp2_with (at_builtin; refine wpList_append_own _ rfl _ _ 22 rfl B 9 i9 _ 1 16 und22 hi9 hz0 hz1 hz2 rfl (by omega) _ j _ rfl (HOWN.out.alloc _) ⟨wr.heap.size, 0, none⟩ 1 1 [.string _] rfl rfl (one_cell (Blk.new wr 9 _)) (by simp [Value.oneCell']) (by unfold maxLen; omega) (by omega) (by simp; omega) ?_)
      intro v' w5 hown5 hg5 hiff
      have hb5 := app_below HBEL.out hsz _ HOWN.out (Nat.le_refl _) hg5
      have HR := Lib.hid (And.intro hown5 hb5)
      clear hown5 hg5 hb5 hiff
      go_wp2_with fail
      go_ret
      exact ⟨_, rfl, by rw [HE.out]; exact HR.out.1, HR.out.2⟩

/-! ### The same texts? -/
theorem own_cell {w : World} {B n : Nat} {v : Value} {l : List ByteArray} (h : w.ownsRow B 9 1 v n (strs l)) :
    (v = .slice none 0 0 ∧ n = 0) ∨ ∃ g cap, v = .slice (some ⟨g, 0, none⟩) n cap ∧ B ≤ g ∧ g < w.heap.size ∧ n ≤ cap ∧ ∀ i y, l[i]? = some y → w.cell? ⟨g, i, none⟩ = some (.string y) := by
  obtain ⟨h1, h2⟩ := h
  rcases h2 with ⟨h3, h4⟩ | ⟨g, cap, cur, h3, h4, h5, h6, h7, h8, h9⟩
  · exact .inl ⟨h3, h4⟩
  · refine .inr ⟨g, cap, h3, h4, lt_of_block h5, h6, fun i y hi => ?_⟩
    have hc := cell_of_row w g i cur 9 (0, 0) h5
    rw [hc]
    have hs : (strs l)[i]? = some (.string y) := by simp [strs, hi]
    rw [← h9] at hs
    rw [List.getElem?_take] at hs
    split at hs
    · simpa using hs
    · cases hs

/-- A slice whose cells are these strings. -/
def IsStrs (w : World) (B : Nat) (v : Value) (l : List ByteArray) : Prop :=
  (∃ cap, v = .slice none 0 cap ∧ l = []) ∨ ∃ g cap, v = .slice (some ⟨g, 0, none⟩) l.length cap ∧ B ≤ g ∧ g < w.heap.size ∧ l.length ≤ cap ∧ ∀ i y, l[i]? = some y → w.cell? ⟨g, i, none⟩ = some (.string y)
theorem IsStrs.of {w : World} {B n : Nat} {v : Value} {l : List ByteArray} (h : w.ownsRow B 9 1 v n (strs l)) : IsStrs w B v l := by
  have hn : n = l.length := by have := h.1; simp [strs] at this; omega
  rcases own_cell h with ⟨h3, h4⟩ | ⟨g, cap, h3, h4, h5, h6, h7⟩
  · exact .inl ⟨0, h3, List.eq_nil_of_length_eq_zero (by omega)⟩
  · exact .inr ⟨g, cap, by rw [← hn]; exact h3, h4, h5, by omega, h7⟩
theorem IsStrs.len {w : World} {B : Nat} {v : Value} {l : List ByteArray} (h : IsStrs w B v l) : ∃ a c, v = .slice a l.length c := by
  rcases h with ⟨c, h1, rfl⟩ | ⟨g, cap, h3, _⟩
  · exact ⟨none, c, h1⟩
  · exact ⟨_, cap, h3⟩
theorem IsStrs.at {w : World} {B : Nat} {v : Value} {l : List ByteArray} (h : IsStrs w B v l) (j : Nat) (y : ByteArray) (hj : l[j]? = some y) : ∃ g c, v = .slice (some ⟨g, 0, none⟩) l.length c ∧ w.cell? ⟨g, j, none⟩ = some (.string y) ∧ B ≤ g ∧ g < w.heap.size := by
  rcases h with ⟨c, h1, rfl⟩ | ⟨g, cap, h3, h4, h5, h6, h7⟩
  · simp at hj
  · exact ⟨g, cap, h3, h7 j y hj, h4, h5⟩
theorem IsStrs.keep {w w' : World} {B B' : Nat} {v : Value} {l : List ByteArray} (h : IsStrs w B v l) (hs : w.heap.size ≤ w'.heap.size) (hk : ∀ i, i < w.heap.size → B ≤ i → w'.heap[i]? = w.heap[i]?) (hB : B' ≤ B) : IsStrs w' B' v l := by
  rcases h with h | ⟨g, cap, h3, h4, h5, h6, h7⟩
  · exact .inl h
  · refine .inr ⟨g, cap, h3, by omega, by omega, h6, fun i y hy => ?_⟩
    rw [← h7 i y hy]
    exact World.cell?_of_block (hk g h5 h4)
theorem IsStrs.below {w w' : World} {B : Nat} {v : Value} {l : List ByteArray} (h : IsStrs w B v l) (hb : Below w.heap.size w w') : IsStrs w' B v l :=
  h.keep hb.size (fun i hi _ => hb.block i hi) (Nat.le_refl _)

set_option maxRecDepth 100000 in
theorem texts_same (a b : Value) (l : List ByteArray) (B B' : Nat) (hl : l.length ≤ 70000) (w : World) (ha : IsStrs w B a l) (hb : IsStrs w B' b l) :
    Calls Try.prog 18 #[a, b] w fun e w' => e = .returned (.bool true) ∧ Below w.heap.size w w' := by
  obtain ⟨pa, ca, ea⟩ := ha.len
  obtain ⟨pb, cb, eb⟩ := hb.len
  have hbel : Below w.heap.size w w := Below.refl _ _
  have HA := Lib.hid ha
  have HB := Lib.hid hb
  clear ha hb
  obtain ⟨n, hn⟩ : ∃ n, l.length = n := ⟨_, rfl⟩
  rw [hn] at ea eb hl
  subst ea eb
  have HN := Lib.hid hn
  clear hn
  go_enter Try.func18, Try.ntmps18
  go_wp2_with fail
  go_loopw [5] (fun i wr => ∃ j : Nat, j ≤ n ∧ i = .int .i64 j ∧ Below w.heap.size w wr) (fun i _ => n - (intOf i).toNat)
  case atStart => exact ⟨0, Nat.zero_le _, rfl, hbel⟩
  case round =>
    clear hbel
    obtain ⟨j, hj, rfl, hbel⟩ := hrel
    have hin : j < n ∨ ¬ j < n := by omega
    rcases hin with hlt | hout
    · obtain ⟨y, hy⟩ : ∃ y, l[j]? = some y := ⟨l[j]'(by rw [HN.out]; exact hlt), List.getElem?_eq_getElem _⟩
      obtain ⟨ga, ca', ea, c1, _, la⟩ := HA.out.at j y hy
      obtain ⟨gb, cb', eb, c2, _, lb⟩ := HB.out.at j y hy
      injection ea with ea1 ea2 ea3
      injection eb with eb1 eb2 eb3
      subst ea1 eb1 ea3 eb3
      rw [← hbel.cell (p := ⟨ga, _, none⟩) la] at c1
      rw [← hbel.cell (p := ⟨gb, _, none⟩) lb] at c2
      clear la lb hy ea2 eb2
      have HBEL := Lib.hid hbel
      clear hbel
      go_wp2_with fail
      go_quiet (fail)
      go_wp2_with fail
      go_roundw
      case rel => exact ⟨j + 1, by omega, by go_num, below_drewN HBEL.out _⟩
      case measure => simp [intOf]; omega
    · go_wp2_with fail
      go_ret
      exact ⟨rfl, hbel⟩

end Go.Proofs.Ytdcdfhonkjmpeaa.Chunk
