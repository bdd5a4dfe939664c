import Derived.Test.YtebiidfpgdolnaaDoorMy
import Derived.Deep.RegionHeld3
namespace Go.Proofs.YtebiidfpgdolnaaDoor.Dmp
open Go.ChangeShapes Go.WideShapes Go.ChangeAt Go.RowKit Go.Deep
set_option linter.unusedVariables false
open Go.Lib Go.Shelf
set_option linter.unusedSimpArgs false

/-- The words of the types. -/
def NM : List ByteArray := [⟨#[100, 97, 116, 97]⟩, ⟨#[105, 116, 101, 109]⟩, ⟨#[111, 112, 101, 110]⟩, ⟨#[112, 114, 105, 111, 114, 105, 116, 121]⟩, ⟨#[114, 101, 115, 101, 116]⟩, ⟨#[115, 101, 116, 116, 105, 110, 103, 115]⟩, ⟨#[97, 99, 107]⟩, ⟨#[112, 105, 110, 103]⟩, ⟨#[112, 111, 110, 103]⟩, ⟨#[103, 111, 97, 119, 97, 121]⟩, ⟨#[119, 105, 110, 100, 111, 119]⟩, ⟨#[114, 101, 113, 117, 101, 115, 116]⟩]
theorem NM_len : NM.length = 12 := rfl
theorem NM_inj : ∀ i j : Nat, i < 12 → j < 12 → atB NM i = atB NM j → i = j := by
  have h : ((List.range 12).all fun i => (List.range 12).all fun j => decide (i = j) || !decide ((atB NM i).data.toList = (atB NM j).data.toList)) = true := by kernel_rfl
  intro i j hi hj he
  have h2 := List.all_eq_true.mp (List.all_eq_true.mp h i (List.mem_range.mpr hi)) j (List.mem_range.mpr hj)
  rw [he] at h2
  simpa using h2
/-- What a word says of the type. -/
def TypIs (x : ByteArray) (t : Int) : Prop := -1 ≤ t ∧ t ≤ 11 ∧ ∀ i : Nat, i < 12 → x = atB NM i → t = i
def TypRes (x : ByteArray) (t : Int) : Prop := t = -1 ∧ (∀ i : Nat, i < 12 → x ≠ atB NM i) ∨ ∃ i : Nat, i < 12 ∧ x = atB NM i ∧ t = i
theorem teq_true {a b : ByteArray} (h : a = b) : (a.toList == b.toList) = true := by rw [h]; simp
theorem teq_false {a b : ByteArray} (h : a ≠ b) : (a.toList == b.toList) = false := by
  rw [beq_eq_false_iff_ne]; exact fun e => h ((list_iff a b).mp e)

set_option maxRecDepth 100000 in
set_option maxHeartbeats 3200000 in
theorem types_any (x : ByteArray) (w : World) : Calls Tryd.prog 51 #[.string x] w fun e w' => ∃ t, e = .returned (.int .i64 t) ∧ TypIs x t ∧ TypRes x t ∧ Below w.heap.size w w' := by
  have hb0 : Blk (w.alloc (.cells (strW NM).toArray 9)) w.heap.size 9 (strW NM).toArray := Blk.new w 9 _
  have hb1 : Below w.heap.size w (w.alloc (.cells (strW NM).toArray 9)) := Below.step (Below.refl _ _) _
  have HX := Lib.hid (And.intro hb0 hb1)
  clear hb0 hb1
  go_enter Tryd.func51, Tryd.ntmps51
  go_wp2_with fail
  go_loopw [7] (fun i wr => ∃ k : Nat, k ≤ 12 ∧ i = .int .i64 k ∧ Hid (Blk wr w.heap.size 9 (strW NM).toArray ∧ Below w.heap.size w wr ∧ ∀ j, j < k → x ≠ atB NM j)) (fun i _ => 12 - (RowKit.intOf i).toNat)
  case atStart => exact ⟨0, Nat.zero_le _, rfl, Lib.hid ⟨HX.out.1, HX.out.2, fun j hj => absurd hj (Nat.not_lt_zero j)⟩⟩
  case round =>
    obtain ⟨k, hk, rfl, HK⟩ := hrel
    rcases (show k < 12 ∨ k = 12 by omega) with hlt | rfl
    · have hc : wr.cell? ⟨w.heap.size, k, none⟩ = some (.string (atB NM k)) := by
        rw [HK.out.1.cell]
        have h1 : NM[k]? = some (NM[k]'hlt) := List.getElem?_eq_getElem hlt
        have h2 := atB_in (ws := NM) (i := k) hlt
        rw [h2]
        unfold strW
        simp [h1]
      obtain ⟨y, hy⟩ : ∃ y, atB NM k = y := ⟨_, rfl⟩
      have k0 : (0 : Int) ≤ (k : Int) := by omega
      have k1 : (k : Int) < 12 := by omega
      have w6 : IntKind.i64.wrap ((k : Int) + 1) = (k : Int) + 1 := IntWalk.i64_in _ (by omega)
      by_cases he : y = x
      · have h2 : TypIs x k := ⟨by omega, by omega, fun i hi hx => by
          have := NM_inj i k hi hlt (by rw [← hx, hy, he])
          omega⟩
        have h1 := teq_true he
        rw [hy] at hc
        have h3 : TypRes x k := Or.inr ⟨k, hlt, by rw [hy, he], rfl⟩
        have HZ := Lib.hid (And.intro h2 (And.intro h3 HK.out.2.1))
        clear h2 h3 he hy hlt hk HK
        go_wp2_with fail
        go_ret
        exact ⟨_, rfl, HZ.out.1, HZ.out.2.1, HZ.out.2.2⟩
      · have h2 : ∀ j, j < k + 1 → x ≠ atB NM j := fun j hj hx => by
          rcases (show j < k ∨ j = k by omega) with h | rfl
          · exact HK.out.2.2 j h hx
          · exact he (by rw [← hy, hx])
        have h1 := teq_false he
        rw [hy] at hc
        have HZ := Lib.hid (And.intro HK.out.1 (And.intro HK.out.2.1 (And.intro h2 hlt)))
        clear h2 he hy hlt hk HK
        go_wp2_with fail
        refine ⟨⟨k + 1, by have := HZ.out.2.2.2; omega, rfl, Lib.hid ⟨HZ.out.1, HZ.out.2.1, HZ.out.2.2.1⟩⟩, ?_⟩
        have := HZ.out.2.2.2
        show 12 - ((k : Int) + 1).toNat < 12 - (k : Int).toNat
        omega
    · have h2 : TypIs x (-1) := ⟨by omega, by omega, fun i hi hx => absurd hx (HK.out.2.2 i hi)⟩
      have h3 : TypRes x (-1) := Or.inl ⟨rfl, fun i hi => HK.out.2.2 i hi⟩
      have HZ := Lib.hid (And.intro h2 (And.intro h3 HK.out.2.1))
      clear h2 h3 HK hk
      go_wp2_with fail
      go_ret
      exact ⟨_, rfl, HZ.out.1, HZ.out.2.1, HZ.out.2.2⟩

end Go.Proofs.YtebiidfpgdolnaaDoor.Dmp

namespace Go.Proofs.YtebiidfpgdolnaaDoor.Dmp
open Go.ChangeShapes Go.WideShapes Go.ChangeAt Go.RowKit Go.Deep
set_option linter.unusedVariables false
open Go.Lib Go.Shelf
set_option linter.unusedSimpArgs false

/-- What is read as a number at a place among the words. -/
def NumAt (ws : List ByteArray) (i : Nat) (n : Int) : Prop := ∀ k, N31 k → atB ws i = dgN k → n = k

set_option maxRecDepth 100000 in
set_option maxHeartbeats 1600000 in
theorem gnum_any (ws : List ByteArray) (v : Value) (x i : Nat) (hi : i ≤ 1000) (hw : ws.length ≤ 30000) (hz : ∀ y ∈ ws, y.size ≤ 100000) (w : World) (hx : w.cell? ⟨x, 0, none⟩ = some v) (h : RdS w v ws) :
    Calls Tryd.prog 52 #[.int .i64 i, .pointer (some ⟨x, 0, none⟩)] w fun e w' => ∃ n, e = .returned (.int .i64 n) ∧ NumAt ws i n ∧ Below w.heap.size w w' := by
  have d1 := at_any ws v i hi hw w h
  have d2 := dnum_any (atB ws i) (atB_size hz i) w
  have HX := Lib.hid (And.intro d1 d2)
  clear d1 d2 h hz
  go_enter Tryd.func52, Tryd.ntmps52
  go_wp2_with fail
  refine HX.out.1.mono ?_
  rintro e w1 ⟨rfl, rfl⟩
  go_wp2_with fail
  refine HX.out.2.mono ?_
  rintro e w2 ⟨⟨n, b, rfl, hn⟩, hb⟩
  have HN := Lib.hid (And.intro hn hb)
  clear hn hb
  go_wp2_with fail
  go_ret
  exact ⟨n, rfl, HN.out.1, HN.out.2⟩

def aloneB (x : ByteArray) : Bool := x.toList == [97, 108, 111, 110, 101]

set_option maxRecDepth 100000 in
set_option maxHeartbeats 3200000 in
theorem gdep_any (ws : List ByteArray) (v : Value) (x1 x2 i : Nat) (hi : i ≤ 900) (hw : ws.length ≤ 30000) (hz : ∀ y ∈ ws, y.size ≤ 100000) (w : World)
    (hx1 : w.cell? ⟨x1, 0, none⟩ = some (.func (Fn.func 52) #[] #[.pointer (some ⟨x2, 0, none⟩)])) (l1 : x1 < w.heap.size) (hx2 : w.cell? ⟨x2, 0, none⟩ = some v) (l2 : x2 < w.heap.size) (h : RdS w v ws) :
    Calls Tryd.prog 55 #[.int .i64 i, .pointer (some ⟨x1, 0, none⟩), .pointer (some ⟨x2, 0, none⟩)] w fun e w' => ∃ on we, e = .returned (.agg #[.int .i64 on, .int .i64 we, .bool (aloneB (atB ws (i + 2)))]) ∧ NumAt ws i on ∧ NumAt ws (i + 1) we ∧ Below w.heap.size w w' := by
  have hS : ∀ wx, Below w.heap.size w wx → wx.cell? ⟨x1, 0, none⟩ = some (.func (Fn.func 52) #[] #[.pointer (some ⟨x2, 0, none⟩)]) ∧ wx.cell? ⟨x2, 0, none⟩ = some v ∧ RdS wx v ws := fun wx hb =>
    ⟨(hb.cell (p := ⟨x1, 0, none⟩) l1).trans hx1, (hb.cell (p := ⟨x2, 0, none⟩) l2).trans hx2, h.below hb⟩
  have e1 : ((i + 1 : Nat) : Int) = (i : Int) + 1 := by omega
  have e2 : ((i + 2 : Nat) : Int) = (i : Int) + 2 := by omega
  have d1 := fun wx (hb : Below w.heap.size w wx) => gnum_any ws v x2 i (by omega) hw hz wx (hS wx hb).2.1 (hS wx hb).2.2
  have d2 := fun wx (hb : Below w.heap.size w wx) => gnum_any ws v x2 (i + 1) (by omega) hw hz wx (hS wx hb).2.1 (hS wx hb).2.2
  have d3 := fun wx (hb : Below w.heap.size w wx) => at_any ws v (i + 2) (by omega) hw wx (hS wx hb).2.2
  rw [e1] at d2
  rw [e2] at d3
  obtain ⟨sa, hsa⟩ : ∃ s, atB ws (i + 2) = s := ⟨_, rfl⟩
  rw [hsa] at d3 ⊢
  have w1 : IntKind.i64.wrap ((i : Int) + 1) = (i : Int) + 1 := IntWalk.i64_in _ (by omega)
  have w2 : IntKind.i64.wrap ((i : Int) + 2) = (i : Int) + 2 := IntWalk.i64_in _ (by omega)
  have hb0 : ∀ d, Below w.heap.size w ((w.alloc (.cells #[.int .i64 0, .int .i64 0, .bool false] 23)).drewN d) := fun d => below_drewN (Below.step (Below.refl _ _) _) d
  have hk0 : ∀ d, Blk ((w.alloc (.cells #[.int .i64 0, .int .i64 0, .bool false] 23)).drewN d) w.heap.size 23 #[.int .i64 0, .int .i64 0, .bool false] := fun d => (Blk.new w 23 _).drewN d
  have HX := Lib.hid (And.intro d1 (And.intro d2 (And.intro d3 (And.intro hS (And.intro hb0 hk0)))))
  clear d1 d2 d3 hS hb0 hk0 hx1 hx2 h hz e1 e2 hsa
  go_enter Tryd.func55, Tryd.ntmps55
  go_wp2_with fail
  refine wp_region_held_drew (S := fun w' => w'.cell? ⟨x1, 0, none⟩ = some (.func (Fn.func 52) #[] #[.pointer (some ⟨x2, 0, none⟩)]) ∧ w'.cell? ⟨x2, 0, none⟩ = some v) (by kernel_rfl) (⟨(HX.out.2.2.2.1 _ (HX.out.2.2.2.2.1 1)).1, (HX.out.2.2.2.1 _ (HX.out.2.2.2.2.1 1)).2.1⟩) (fun hHeld => ?_)
  refine wpAnyH_take (i := 0) (v := ?va0) rfl (by kernel_rfl) (by kernel_rfl) (by kernel_rfl) (fun _ _ _ h => h) (Or.inl ⟨by rfl, ?hya0⟩) hHeld ?resta0
  case hya0 => (intro w' hSw; (try dsimp only at hSw); go_simp; try with_reducible rfl)
  try simp only [Act.put, List.getElem_toArray, List.getElem_cons_zero, List.getElem_cons_succ, List.setIfInBounds_toArray, List.set_cons_zero, List.set_cons_succ]
  refine wpAnyH_take (i := 1) (v := ?va1) rfl (by kernel_rfl) (by kernel_rfl) (by kernel_rfl) (fun _ _ _ h => h) (Or.inl ⟨by rfl, ?hya1⟩) hHeld ?resta1
  case hya1 => (intro w' hSw; (try dsimp only at hSw); go_simp; try with_reducible rfl)
  try simp only [Act.put, List.getElem_toArray, List.getElem_cons_zero, List.getElem_cons_succ, List.setIfInBounds_toArray, List.set_cons_zero, List.set_cons_succ]
  refine wpAnyH_take (i := 3) (v := ?va3) rfl (by kernel_rfl) (by kernel_rfl) (by kernel_rfl) (fun _ _ _ h => h) (Or.inl ⟨by rfl, ?hya3⟩) hHeld ?resta3
  case hya3 => (intro w' hSw; (try dsimp only at hSw); go_simp; try with_reducible rfl)
  try simp only [Act.put, List.getElem_toArray, List.getElem_cons_zero, List.getElem_cons_succ, List.setIfInBounds_toArray, List.set_cons_zero, List.set_cons_succ]
  refine wpAnyH_take (i := 4) (v := ?va4) rfl (by kernel_rfl) (by kernel_rfl) (by kernel_rfl) (fun _ _ _ h => h) (Or.inl ⟨by rfl, ?hya4⟩) hHeld ?resta4
  case hya4 => (intro w' hSw; (try dsimp only at hSw); go_simp; try with_reducible rfl)
  try simp only [Act.put, List.getElem_toArray, List.getElem_cons_zero, List.getElem_cons_succ, List.setIfInBounds_toArray, List.set_cons_zero, List.set_cons_succ]
  refine wpAnyH_take (i := 5) (v := ?va5) rfl (by kernel_rfl) (by kernel_rfl) (by kernel_rfl) (fun _ _ _ h => h) (Or.inl ⟨by rfl, ?hya5⟩) hHeld ?resta5
  case hya5 => (intro w' hSw; (try dsimp only at hSw); go_simp; try with_reducible rfl)
  try simp only [Act.put, List.getElem_toArray, List.getElem_cons_zero, List.getElem_cons_succ, List.setIfInBounds_toArray, List.set_cons_zero, List.set_cons_succ]
  refine wpAnyH_take (i := 7) (v := ?va7) rfl (by kernel_rfl) (by kernel_rfl) (by kernel_rfl) (fun _ _ _ h => h) (Or.inl ⟨by rfl, ?hya7⟩) hHeld ?resta7
  case hya7 => (intro w' hSw; (try dsimp only at hSw); go_simp; try with_reducible rfl)
  try simp only [Act.put, List.getElem_toArray, List.getElem_cons_zero, List.getElem_cons_succ, List.setIfInBounds_toArray, List.set_cons_zero, List.set_cons_succ]
  refine wpAnyH_take (i := 8) (v := ?va8) rfl (by kernel_rfl) (by kernel_rfl) (by kernel_rfl) (fun _ _ _ h => h) (Or.inl ⟨by rfl, ?hya8⟩) hHeld ?resta8
  case hya8 => (intro w' hSw; (try dsimp only at hSw); go_simp; try with_reducible rfl)
  try simp only [Act.put, List.getElem_toArray, List.getElem_cons_zero, List.getElem_cons_succ, List.setIfInBounds_toArray, List.set_cons_zero, List.set_cons_succ]
  refine wpAnyH_take (i := 9) (v := ?va9) rfl (by kernel_rfl) (by kernel_rfl) (by kernel_rfl) (fun _ _ _ h => h) (Or.inl ⟨by rfl, ?hya9⟩) hHeld ?resta9
  case hya9 => (intro w' hSw; (try dsimp only at hSw); go_simp; try with_reducible rfl)
  try simp only [Act.put, List.getElem_toArray, List.getElem_cons_zero, List.getElem_cons_succ, List.setIfInBounds_toArray, List.set_cons_zero, List.set_cons_succ]
  refine wpAnyH_ready (rs := [2]) (by kernel_rfl) (by simp) ?_
  refine AllReadyH.cons rfl (fun K hK => ?_) AllReadyH.nil
  go_simp
  refine (HX.out.1 _ (HX.out.2.2.2.2.1 1)).mono ?_
  rintro e1 wA ⟨n1, rfl, hn1, hm1⟩
  have bA := (HX.out.2.2.2.2.1 1).trans (hm1.mono (HX.out.2.2.2.2.1 1).size)
  have kA := (HX.out.2.2.2.2.2 1).below hm1 (HX.out.2.2.2.2.2 1).lt
  refine hK.out _ _ (⟨(HX.out.2.2.2.1 _ bA).1, (HX.out.2.2.2.1 _ bA).2.1⟩) (fun hHeld => ?_)
  clear hK K
  try simp only [Act.put, List.getElem_toArray, List.getElem_cons_zero, List.getElem_cons_succ, List.setIfInBounds_toArray, List.set_cons_zero, List.set_cons_succ]
  refine wpAnyH_ready (rs := [6]) (by kernel_rfl) (by simp) ?_
  refine AllReadyH.cons rfl (fun K hK => ?_) AllReadyH.nil
  go_simp
  refine (HX.out.2.1 _ bA).mono ?_
  rintro e2 wB ⟨n2, rfl, hn2, hm2⟩
  have bB := bA.trans (hm2.mono bA.size)
  have kB := kA.below hm2 kA.lt
  refine hK.out _ _ (⟨(HX.out.2.2.2.1 _ bB).1, (HX.out.2.2.2.1 _ bB).2.1⟩) (fun hHeld => ?_)
  clear hK K
  try simp only [Act.put, List.getElem_toArray, List.getElem_cons_zero, List.getElem_cons_succ, List.setIfInBounds_toArray, List.set_cons_zero, List.set_cons_succ]
  refine wpAnyH_ready (rs := [10]) (by kernel_rfl) (by simp) ?_
  refine AllReadyH.cons rfl (fun K hK => ?_) AllReadyH.nil
  go_simp
  refine (HX.out.2.2.1 _ bB).mono ?_
  rintro e3 wC ⟨rfl, rfl⟩
  have q0 := kB.cell 0
  have q1 := kB.cell 1
  have q2 := kB.cell 2
  have z0 := kB.frozen 0
  have z1 := kB.frozen 1
  have z2 := kB.frozen 2
  have kS := Lib.hid (((kB.store 0 (.int .i64 n1)).store 1 (.int .i64 n2)).store 2 (.bool (aloneB sa)))
  have bS := Lib.hid (((bB.setCell (p := ⟨w.heap.size, 0, none⟩) (Nat.le_refl _) (.int .i64 n1)).setCell (p := ⟨w.heap.size, 1, none⟩) (Nat.le_refl _) (.int .i64 n2)).setCell (p := ⟨w.heap.size, 2, none⟩) (Nat.le_refl _) (.bool (aloneB sa)))
  refine hK.out _ _ (⟨(HX.out.2.2.2.1 _ bB).1, (HX.out.2.2.2.1 _ bB).2.1⟩) (fun hHeld => ?_)
  clear hK K
  try simp only [Act.put, List.getElem_toArray, List.getElem_cons_zero, List.getElem_cons_succ, List.setIfInBounds_toArray, List.set_cons_zero, List.set_cons_succ]
  refine wpAnyH_take (i := 11) (v := ?va11) rfl (by kernel_rfl) (by kernel_rfl) (by kernel_rfl) (fun _ _ _ h => h) (Or.inl ⟨by rfl, ?hya11⟩) hHeld ?resta11
  case hya11 => (intro w' hSw; (try dsimp only at hSw); go_simp; try with_reducible rfl)
  try simp only [Act.put, List.getElem_toArray, List.getElem_cons_zero, List.getElem_cons_succ, List.setIfInBounds_toArray, List.set_cons_zero, List.set_cons_succ]
  refine wpAnyH_take (i := 12) (v := ?va12) rfl (by kernel_rfl) (by kernel_rfl) (by kernel_rfl) (fun _ _ _ h => h) (Or.inl ⟨by rfl, ?hya12⟩) hHeld ?resta12
  case hya12 => (intro w' hSw; (try dsimp only at hSw); go_simp; try with_reducible rfl)
  try simp only [Act.put, List.getElem_toArray, List.getElem_cons_zero, List.getElem_cons_succ, List.setIfInBounds_toArray, List.set_cons_zero, List.set_cons_succ]
  refine wpAnyH_ready (rs := [13]) (by kernel_rfl) (by simp) ?_
  refine AllReadyH.cons rfl (fun K hK => ?_) AllReadyH.nil
  go_simp
  refine hK.out _ _ (⟨(HX.out.2.2.2.1 _ bS.out).1, (HX.out.2.2.2.1 _ bS.out).2.1⟩) (fun hHeld => ?_)
  clear hK K
  try simp only [Act.put, List.getElem_toArray, List.getElem_cons_zero, List.getElem_cons_succ, List.setIfInBounds_toArray, List.set_cons_zero, List.set_cons_succ]
  refine wpAnyH_done (by kernel_rfl) ?_ _
  have HN := Lib.hid (And.intro hn1 hn2)
  clear hn1 hn2 kA kB bA bB hm1 hm2 q0 q1 q2 z0 z1 z2
  go_wp2_with fail
  exact bodyPost_ret (v := .agg #[.int .i64 n1, .int .i64 n2, .bool (aloneB sa)]) (results_cell_row rfl _ _ w.heap.size 23 #[.int .i64 n1, .int .i64 n2, .bool (aloneB sa)] (0, 0) _ rfl kS.out Tryd.underlying23 rfl (by kernel_rfl)) rfl ⟨n1, n2, rfl, HN.out.1, HN.out.2, bS.out⟩

end Go.Proofs.YtebiidfpgdolnaaDoor.Dmp
