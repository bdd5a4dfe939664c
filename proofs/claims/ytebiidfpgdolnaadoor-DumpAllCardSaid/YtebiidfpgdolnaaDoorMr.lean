import Derived.Test.YtebiidfpgdolnaaDoorMq
import Derived.Test.YtebiidfpgdolnaaDoorMa
import Derived.Deep.AppendLies
import Derived.Deep.RegionHeld3
namespace Go.Proofs.YtebiidfpgdolnaaDoor.Dmp
open Go.ChangeShapes Go.WideShapes Go.ChangeAt Go.RowKit Go.Deep
set_option linter.unusedVariables false
open Go.Lib
set_option linter.unusedSimpArgs false

/-! Rows of bytes. -/
def bys (l : List UInt8) : List Value := l.map fun u => .int .u8 (u.toNat : Int)
theorem bys_len (l : List UInt8) : (bys l).length = l.length := by simp [bys]
theorem bys_append (a b : List UInt8) : bys (a ++ b) = bys a ++ bys b := by simp [bys]
theorem ByteRow.of {w : World} {B g n : Nat} {v : Value} {l : List UInt8} (h : w.ownsRow B 5 1 v n (bys l)) (hg : g < B) : Bytes w B g v l := by
  obtain ⟨hl, h⟩ := h
  have hn : n = l.length := by rw [bys_len] at hl; omega
  rcases h with ⟨rfl, rfl⟩ | ⟨b, cap, cur, rfl, h2, h3, h4, h5, h6, h7⟩
  · exact .inl ⟨0, rfl, List.eq_nil_of_length_eq_zero hn.symm⟩
  · subst hn
    have hb : b < w.heap.size := by
      rcases Nat.lt_or_ge b w.heap.size with h' | h'
      · exact h'
      · rw [Array.getElem?_eq_none h'] at h3; cases h3
    refine .inr ⟨b, 0, cap, rfl, h4, h2, by omega, hb, fun j u hu => ?_⟩
    rw [cell_of_row w b (0 + j) cur 5 _ h3]
    have hj : j < l.length := (List.getElem?_eq_some_iff.1 hu).1
    have h8 : (bys l)[j]? = some (.int .u8 (u.toNat : Int)) := by simp [bys, hu]
    rw [← h7, List.getElem?_take, if_pos (by omega)] at h8
    rw [Nat.zero_add]
    simpa using h8
theorem info5 : (Tryd.prog.info? 5).map (fun i => (i.zero, i.size, i.bytes)) = some (some (.int .u8 0), 1, 1) := by kernel_rfl
theorem info_parts' {P : Program} {T : TypeId} {z : Value} {n b : Nat} (h : (P.info? T).map (fun i => (i.zero, i.size, i.bytes)) = some (some z, n, b)) : ∃ i, P.info? T = some i ∧ i.zero = some z ∧ i.size = n ∧ i.bytes = b := by
  cases hi : P.info? T with
  | none => rw [hi] at h; cases h
  | some i =>
    rw [hi] at h
    simp only [Option.map_some, Option.some.injEq, Prod.mk.injEq] at h
    exact ⟨i, rfl, h.1, h.2.1, h.2.2⟩
theorem und64s : Tryd.prog.underlying 64 = some (.slice 5) := by kernel_rfl
theorem two_cells {w : World} {g : Nat} {t : TypeId} {a b : Value} (h : Blk w g t #[a, b]) : ∀ j u, [a, b][j]? = some u → w.cell? ((⟨g, 0, none⟩ : Addr).add j) = some u := by
  intro j u hu
  rw [Addr.add_lit, h.cell]
  match j, hu with
  | 0, hu => simpa using hu
  | 1, hu => simpa using hu
theorem hexT_at (r : Nat) (h : r < 16) : (⟨#[48, 49, 50, 51, 52, 53, 54, 55, 56, 57, 97, 98, 99, 100, 101, 102]⟩ : ByteArray)[r]'h = hxd r := by
  have hc : ∀ r : Fin 16, (⟨#[48, 49, 50, 51, 52, 53, 54, 55, 56, 57, 97, 98, 99, 100, 101, 102]⟩ : ByteArray)[r.val]'r.isLt = hxd r.val := by decide
  exact hc ⟨r, h⟩

/-- '[]byte(s)' in a walk: a new block; what lies in it, cell by cell. -/
theorem wpList_bytes_cells {P : Program} {ops : Array Oper} {rest : List Oper} {op : Oper} {a : Act} {w : World} {Q : Exit → Act → World → Prop} (hgd : op.guard = none) (src dst e : TypeId) (x : Operand) (ho : op.op = .convert src dst x)
    (s : ByteArray) (hx : a.eval x = .string s) (hs : P.underlying src = some .string) (hd : P.underlying dst = some (.slice e)) (he : P.underlying e = some (.int .u8)) (H : Nat) (hH : w.heap.size = H)
    (h : ∀ (cap : Nat) (w1 : World), s.size ≤ cap → Below H w w1 → w1.heap.size = H + 1 → (∀ j u, s.data.toList[j]? = some u → w1.cell? ⟨H, j, none⟩ = some (.int .u8 (u.toNat : Int))) →
      wpList P ops Q rest (a.put op.dst (.slice (some ⟨H, 0, none⟩) s.size cap)) w1) : wpList P ops Q (op :: rest) a w := by
  subst hH
  refine wpList_plain hgd fun _ hK => ?_
  unfold Oper.wp execOp
  simp only [ho, hx, Sem.run_bind, Sem.run_pure, Result.andThen_ok, run_bytes_of_string w src dst e s hs hd he]
  have hcap := grownCap_ge w s.size 0 e
  refine hK _ _ (h _ _ hcap (((Below.refl _ _).drew).alloc (Nat.le_refl _) _) (by simp) ?_)
  intro j u hu
  have hrow := cell_of_row (w.drew.alloc (.cells (bytesRow s (grownCap w s.size 0 e)) e ((bytesRow s (grownCap w s.size 0 e)).size, (bytesRow s (grownCap w s.size 0 e)).size + 1))) w.heap.size j _ e _ (heap_alloc_new w.drew _)
  rw [hrow]
  have hj : j < s.data.size := by have := (List.getElem?_eq_some_iff.1 hu).1; simpa using this
  unfold bytesRow
  rw [Array.getElem?_append_left (by simpa using hj)]
  simp only [Array.getElem?_map]
  have : s.data[j]? = some u := by simpa using hu
  rw [this]
  rfl

theorem and15_u8 (x : Nat) (h : x < 256) : bits .and .u8 (x : Int) 15 = ((x % 16 : Nat) : Int) := by
  have hk : ((List.range 256).all fun x => decide (bits .and .u8 ((x : Nat) : Int) 15 = ((x % 16 : Nat) : Int))) = true := by kernel_rfl
  exact of_decide_eq_true (List.all_eq_true.mp hk x (List.mem_range.mpr h))

set_option maxRecDepth 100000 in
set_option maxHeartbeats 3200000 in
theorem hex_any (s : ByteArray) (hs : s.size ≤ 100000) (w : World) : Calls Tryd.prog 50 #[.string s] w fun e w' => e = .returned (.string (hexB s)) ∧ Below w.heap.size w w' := by
  by_cases he : s = ByteArray.empty
  · subst he
    go_enter Tryd.func50, Tryd.ntmps50
    go_wp2_with fail
    go_ret
    exact ⟨rfl, Below.refl _ _⟩
  · have heb : s.toList.isEmpty = false := by
      cases h : s.toList with
      | nil => exact absurd ((list_iff s ByteArray.empty).mp (by rw [h]; simp)) he
      | cons a l => rfl
    obtain ⟨H, hH⟩ : ∃ H, w.heap.size = H := ⟨_, rfl⟩
    have HE := Lib.hid (And.intro he hH)
    clear he hH
    obtain ⟨i5, hi5, hz0, hz1, hz2⟩ := info_parts' info5
    go_enter Tryd.func50, Tryd.ntmps50
    go_wp2_with (refine wpList_bytes_cells rfl 9 64 5 _ rfl s (by rfl) Tryd.underlying9 und64s Tryd.underlying5 H HE.out.2 ?_)
    intro cap w1 hcap hb1 hs1 hby
    have H1 := Lib.hid (And.intro hb1 (And.intro hs1 (And.intro hby hcap)))
    have hHcap : s.size ≤ cap := hcap
    clear hb1 hs1 hby hcap
    go_wp2_with fail
    go_loopw [11, 3] (fun i o wr => ∃ k : Nat, k ≤ s.size ∧ i = .int .i64 k ∧ wr.ownsRow (H + 1) 5 1 o (2 * k) (bys (hexL (s.data.toList.take k))) ∧ Below (H + 1) w1 wr) (fun i _ _ => s.size - (intOf i).toNat)
    case atStart => exact ⟨0, Nat.zero_le _, rfl, World.ownsRow_nil _ _ _ _, Below.refl _ _⟩
    case round =>
      obtain ⟨k, hk, rfl, hown, hb⟩ := hrel
      rcases (show k < s.size ∨ k = s.size by omega) with hlt | rfl
      · have hbs : H + 1 ≤ wr.heap.size := by have := hb.size; have := H1.out.2.1; omega
        have hdat := Lib.data_getElem? s k hlt
        obtain ⟨u, hu⟩ : ∃ u, s[k] = u := ⟨_, rfl⟩
        rw [hu] at hdat
        have c0 : wr.cell? ⟨H, k, none⟩ = some (.int .u8 (u.toNat : Int)) := by
          rw [hb.cell (p := ⟨H, k, none⟩) (by show H < H + 1; omega)]
          exact H1.out.2.2.1 k u (by simpa using hdat)
        obtain ⟨h, hh⟩ : ∃ h, u.toNat / 16 = h := ⟨_, rfl⟩
        obtain ⟨l, hl⟩ : ∃ l, u.toNat % 16 = l := ⟨_, rfl⟩
        have hu256 : u.toNat < 256 := UInt8.toNat_lt _
        have h16 : h < 16 := by omega
        have l16 : l < 16 := by omega
        have e1 := hexT_at h h16
        have e2 := hexT_at l l16
        have q1 : (u.toNat : Int) / 16 = (h : Int) := by omega
        have q2 : bits .and .u8 (u.toNat : Int) 15 = (l : Int) := by rw [and15_u8 _ hu256, hl]
        have a0 : (0 : Int) ≤ (h : Int) := by omega
        have a1 : (h : Int) < 16 := by omega
        have b0 : (0 : Int) ≤ (l : Int) := by omega
        have b1 : (l : Int) < 16 := by omega
        have a2 : h < 16 := h16
        have b2 : l < 16 := l16
        have k0 : (0 : Int) ≤ (k : Int) := by omega
        have k1 : (k : Int) < (s.size : Int) := by omega
        have hnx : bys (hexL (s.data.toList.take (k + 1))) = bys (hexL (s.data.toList.take k)) ++ [.int .u8 ((hxd h).toNat : Int), .int .u8 ((hxd l).toNat : Int)] := by
          rw [List.take_add_one, hdat]
          show bys (hexL (_ ++ [u])) = _
          unfold hexL
          rw [List.flatMap_append, bys_append]
          simp [hx1, bys, hh, hl]
        have hA : ∀ a b : Value, ((wr.alloc (.cells #[a, b] 5)).drew).ownsRow (H + 1) 5 1 u3 (2 * k) (bys (hexL (s.data.toList.take k))) := fun a b => (hown.alloc _).drew
        have hB : ∀ a b : Value, ∀ j u, [a, b][j]? = some u → ((wr.alloc (.cells #[a, b] 5)).drew).cell? ((⟨wr.heap.size, 0, none⟩ : Addr).add j) = some u := fun a b => two_cells ((Blk.new wr 5 #[a, b]).drew)
        have hC : ∀ a b : Value, Below (H + 1) w1 ((wr.alloc (.cells #[a, b] 5)).drew) := fun a b => (hb.alloc hbs _).drew
        have hD : ∀ i, u3.ownBlock = some i → H + 1 ≤ i := fun i hi => (hown.lt i hi).1
        have HK := Lib.hid (And.intro hnx (And.intro hlt (And.intro hA (And.intro hB (And.intro hC (And.intro hbs (And.intro hD (And.intro e1 e2))))))))
        clear hnx hb hlt hown hdat hu hbs hA hB hC hD e1 e2
        go_wp2_with fail
        go_region_held3 (fun _ => True) (trivial) ((refine step_append_lies _ (by rfl) _ _ _ (by rfl) (H + 1) 5 i5 _ 1 1 und64s hi5 hz0 hz1 hz2 (by rfl) (by decide) u3 (2 * k) _ (by rfl) (by exact HK.out.2.2.1 _ _) ⟨wr.heap.size, 0, none⟩ 2 2 [_, _] (by rfl) (by rfl) (by exact HK.out.2.2.2.1 _ _) (by simp [Value.oneCell']) (by decide) (by unfold maxLen; omega) (by omega) (by have h9 := HK.out.2.2.2.2.2.1; simp; omega) _ rfl ?_; intro g cp w5 hown5 hg5 hat5 hlt5))
        all_goals
          rw [HK.out.2.2.2.2.2.2.2.1, HK.out.2.2.2.2.2.2.2.2, ← HK.out.1] at hown5
          have hb5 : Below (H + 1) w1 w5 := (HK.out.2.2.2.2.1 _ _).grown hg5 (by have h9 := HK.out.2.2.2.2.2.1; simp; omega) (HK.out.2.2.2.2.2.2.1)
          have H5 := Lib.hid (And.intro hown5 hb5)
          have w6 : IntKind.i64.wrap ((k : Int) + 1) = (k : Int) + 1 := IntWalk.i64_in _ (by omega)
          clear hown5 hg5 hat5 hlt5 hb5
          go_wp2_with fail
          refine ⟨⟨k + 1, HK.out.2.1, rfl, H5.out.1, H5.out.2⟩, ?_⟩
          have := HK.out.2.1
          show s.size - ((k : Int) + 1).toNat < s.size - (k : Int).toNat
          omega
      · have k1 : ¬ ((s.size : Nat) : Int) < (s.size : Int) := by omega
        have ha := hexTo_all s HE.out.1
        have hrun := run_string_of (P := Tryd.prog) (ByteRow.of hown (Nat.lt_succ_self H)) 64 9 5 und64s Tryd.underlying5 Tryd.underlying9
        have HB := Lib.hid (And.intro ha hb)
        clear ha hb hown
        go_wp2_with fail
        go_ret
        refine ⟨congrArg (fun s => Ending.returned (Value.string s)) HB.out.1, ?_⟩
        rw [HE.out.2]
        exact H1.out.1.trans (HB.out.2.mono (Nat.le_succ H))

end Go.Proofs.YtebiidfpgdolnaaDoor.Dmp

namespace Go.Proofs.YtebiidfpgdolnaaDoor.Dmp
open Go.ChangeShapes Go.WideShapes Go.ChangeAt Go.RowKit Go.Deep
set_option linter.unusedVariables false
open Go.Lib
set_option linter.unusedSimpArgs false

/-- A number of 31 bits. -/
def N31 (n : Int) : Prop := 0 ≤ n ∧ n ≤ 2147483647
def dgN (n : Int) : ByteArray := digs n.toNat
theorem dgN_size {n : Int} (h : N31 n) : (dgN n).size ≤ 14 := digs_size (by have := h.2; omega)
theorem rdg_any (n : Int) (h : N31 n) (w : World) : Calls Tryd.prog 27 #[.int .i64 n] w fun e w' => e = .returned (.string (dgN n)) ∧ Below w.heap.size w w' := by
  obtain ⟨h0, h1⟩ := h
  have := rdigits_pos n.toNat (by omega) w
  rw [show ((n.toNat : Nat) : Int) = n by omega] at this
  exact this
theorem ddg_any (n : Int) (h : N31 n) (w : World) : Calls Tryd.prog 48 #[.int .i64 n] w fun e w' => e = .returned (.string (dgN n)) ∧ ∃ m, w' = w.drewN m := by
  obtain ⟨h0, h1⟩ := h
  have := digits_any n.toNat (by omega) w
  rw [show ((n.toNat : Nat) : Int) = n by omega] at this
  exact this

def exB (b : Bool) : ByteArray := if b then ⟨#[32, 97, 108, 111, 110, 101]⟩ else ⟨#[32, 97, 109, 111, 110, 103]⟩
def ldepB (on we : Int) (ex : Bool) : ByteArray := (((⟨#[32]⟩ ++ dgN on) ++ ⟨#[32]⟩) ++ dgN we) ++ exB ex
theorem ldepB_size {on we : Int} (h1 : N31 on) (h2 : N31 we) (ex : Bool) : (ldepB on we ex).size ≤ 50 := by
  have a1 := dgN_size h1
  have a2 := dgN_size h2
  have a3 : (exB ex).size = 6 := by cases ex <;> rfl
  unfold ldepB
  simp only [ByteArray.size_append]
  have a4 : (⟨#[32]⟩ : ByteArray).size = 1 := rfl
  omega

set_option maxRecDepth 100000 in
set_option maxHeartbeats 3200000 in
theorem ldep_any (on we : Int) (ex : Bool) (h1 : N31 on) (h2 : N31 we) (w : World) : Calls Tryd.prog 30 #[.agg #[.int .i64 on, .int .i64 we, .bool ex]] w fun e w' => e = .returned (.string (ldepB on we ex)) ∧ Below w.heap.size w w' := by
  have z1 := dgN_size h1
  have z2 := dgN_size h2
  obtain ⟨s1, hs1⟩ : ∃ s, dgN on = s := ⟨_, rfl⟩
  obtain ⟨s2, hs2⟩ : ∃ s, dgN we = s := ⟨_, rfl⟩
  have d1 := rdg_any on h1
  have d2 := rdg_any we h2
  rw [hs1] at d1 z1
  rw [hs2] at d2 z2
  have hr : ldepB on we ex = (((⟨#[32]⟩ ++ s1) ++ ⟨#[32]⟩) ++ s2) ++ exB ex := by unfold ldepB; rw [hs1, hs2]
  rw [hr]
  have hbl := fun d => (Blk.new w 23 #[.int .i64 on, .int .i64 we, .bool ex]).drewN d
  have hbe : ∀ d, Below w.heap.size w ((w.alloc (.cells #[.int .i64 on, .int .i64 we, .bool ex] 23)).drewN d) := fun d => below_drewN (Below.step (Below.refl _ _) _) d
  have HX := Lib.hid (And.intro d1 (And.intro d2 (And.intro hbl hbe)))
  clear d1 d2 hbl hbe hr hs1 hs2 h1 h2
  have t1 : ¬ 9223372036854775807 < 1 + s1.size := by omega
  have t2 : ¬ 9223372036854775807 < 1 + s1.size + 1 := by omega
  have t3 : ¬ 9223372036854775807 < 1 + s1.size + 1 + s2.size := by omega
  have t4 : ¬ 9223372036854775807 < 1 + s1.size + 1 + s2.size + 6 := by omega
  go_enter Tryd.func30, Tryd.ntmps30
  go_wp2_with fail
  refine wp_region_held_drew (S := fun w' => w'.cell? ⟨w.heap.size, 0, none⟩ = some (.int .i64 on) ∧ w'.cell? ⟨w.heap.size, 1, none⟩ = some (.int .i64 we)) (by kernel_rfl) (⟨(HX.out.2.2.1 1).cell 0, (HX.out.2.2.1 1).cell 1⟩) (fun hHeld => ?_)
  refine wpAnyH_take (i := 0) (v := ?va0) rfl (by kernel_rfl) (by kernel_rfl) (by kernel_rfl) (fun _ _ _ h => h) (Or.inl ⟨by rfl, ?hya0⟩) hHeld ?resta0
  case hya0 => (intro w' hSw; (try dsimp only at hSw); go_simp; try with_reducible rfl)
  try simp only [Act.put, List.getElem_toArray, List.getElem_cons_zero, List.getElem_cons_succ, List.setIfInBounds_toArray, List.set_cons_zero, List.set_cons_succ]
  refine wpAnyH_take (i := 1) (v := ?va1) rfl (by kernel_rfl) (by kernel_rfl) (by kernel_rfl) (fun _ _ _ h => h) (Or.inl ⟨by rfl, ?hya1⟩) hHeld ?resta1
  case hya1 => (intro w' hSw; (try dsimp only at hSw); go_simp; try with_reducible rfl)
  try simp only [Act.put, List.getElem_toArray, List.getElem_cons_zero, List.getElem_cons_succ, List.setIfInBounds_toArray, List.set_cons_zero, List.set_cons_succ]
  refine wpAnyH_take (i := 5) (v := ?va5) rfl (by kernel_rfl) (by kernel_rfl) (by kernel_rfl) (fun _ _ _ h => h) (Or.inl ⟨by rfl, ?hya5⟩) hHeld ?resta5
  case hya5 => (intro w' hSw; (try dsimp only at hSw); go_simp; try with_reducible rfl)
  try simp only [Act.put, List.getElem_toArray, List.getElem_cons_zero, List.getElem_cons_succ, List.setIfInBounds_toArray, List.set_cons_zero, List.set_cons_succ]
  refine wpAnyH_take (i := 6) (v := ?va6) rfl (by kernel_rfl) (by kernel_rfl) (by kernel_rfl) (fun _ _ _ h => h) (Or.inl ⟨by rfl, ?hya6⟩) hHeld ?resta6
  case hya6 => (intro w' hSw; (try dsimp only at hSw); go_simp; try with_reducible rfl)
  try simp only [Act.put, List.getElem_toArray, List.getElem_cons_zero, List.getElem_cons_succ, List.setIfInBounds_toArray, List.set_cons_zero, List.set_cons_succ]
  refine wpAnyH_ready (rs := [2]) (by kernel_rfl) (by simp) ?_
  refine AllReadyH.cons rfl (fun K hK => ?_) AllReadyH.nil
  go_simp
  refine (HX.out.1 _).mono ?_
  rintro e1 w1 ⟨rfl, hm1⟩
  have k1 := (HX.out.2.2.1 1).below hm1 (HX.out.2.2.1 1).lt
  have hbA : Below w.heap.size w w1 := (HX.out.2.2.2 1).trans (hm1.mono (HX.out.2.2.2 1).size)
  refine hK.out _ _ (⟨k1.cell 0, k1.cell 1⟩) (fun hHeld => ?_)
  clear hK K
  try simp only [Act.put, List.getElem_toArray, List.getElem_cons_zero, List.getElem_cons_succ, List.setIfInBounds_toArray, List.set_cons_zero, List.set_cons_succ]
  refine wpAnyH_take (i := 3) (v := ?va3) rfl (by kernel_rfl) (by kernel_rfl) (by kernel_rfl) (fun _ _ _ h => h) (Or.inl ⟨by rfl, ?hya3⟩) hHeld ?resta3
  case hya3 => (intro w' hSw; (try dsimp only at hSw); go_simp; try with_reducible rfl)
  try simp only [Act.put, List.getElem_toArray, List.getElem_cons_zero, List.getElem_cons_succ, List.setIfInBounds_toArray, List.set_cons_zero, List.set_cons_succ]
  refine wpAnyH_take (i := 4) (v := ?va4) rfl (by kernel_rfl) (by kernel_rfl) (by kernel_rfl) (fun _ _ _ h => h) (Or.inl ⟨by rfl, ?hya4⟩) hHeld ?resta4
  case hya4 => (intro w' hSw; (try dsimp only at hSw); go_simp; try with_reducible rfl)
  try simp only [Act.put, List.getElem_toArray, List.getElem_cons_zero, List.getElem_cons_succ, List.setIfInBounds_toArray, List.set_cons_zero, List.set_cons_succ]
  refine wpAnyH_ready (rs := [7]) (by kernel_rfl) (by simp) ?_
  refine AllReadyH.cons rfl (fun K hK => ?_) AllReadyH.nil
  go_simp
  refine (HX.out.2.1 _).mono ?_
  rintro e1 w2 ⟨rfl, hm2⟩
  have k2 := k1.below hm2 k1.lt
  have hbB : Below w.heap.size w w2 := hbA.trans (hm2.mono hbA.size)
  refine hK.out _ _ (⟨k2.cell 0, k2.cell 1⟩) (fun hHeld => ?_)
  clear hK K
  try simp only [Act.put, List.getElem_toArray, List.getElem_cons_zero, List.getElem_cons_succ, List.setIfInBounds_toArray, List.set_cons_zero, List.set_cons_succ]
  refine wpAnyH_take (i := 8) (v := ?va8) rfl (by kernel_rfl) (by kernel_rfl) (by kernel_rfl) (fun _ _ _ h => h) (Or.inl ⟨by rfl, ?hya8⟩) hHeld ?resta8
  case hya8 => (intro w' hSw; (try dsimp only at hSw); go_simp; try with_reducible rfl)
  try simp only [Act.put, List.getElem_toArray, List.getElem_cons_zero, List.getElem_cons_succ, List.setIfInBounds_toArray, List.set_cons_zero, List.set_cons_succ]
  refine wpAnyH_take (i := 9) (v := ?va9) rfl (by kernel_rfl) (by kernel_rfl) (by kernel_rfl) (fun _ _ _ h => h) (Or.inl ⟨by rfl, ?hya9⟩) hHeld ?resta9
  case hya9 => (intro w' hSw; (try dsimp only at hSw); go_simp; try with_reducible rfl)
  try simp only [Act.put, List.getElem_toArray, List.getElem_cons_zero, List.getElem_cons_succ, List.setIfInBounds_toArray, List.set_cons_zero, List.set_cons_succ]
  refine wpAnyH_done (by kernel_rfl) ?_ _
  have c2 := k2.cell 2
  have HB := Lib.hid hbB
  clear hbB hbA k1 k2 hm1 hm2
  cases ex
  all_goals
    go_wp2_with fail
    go_ret
    exact ⟨rfl, HB.out⟩

end Go.Proofs.YtebiidfpgdolnaaDoor.Dmp
