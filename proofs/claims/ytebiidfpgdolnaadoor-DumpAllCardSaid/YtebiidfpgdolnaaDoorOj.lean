import Derived.Test.YtebiidfpgdolnaaDoorNg
import Derived.Deep.AppendLies
import Derived.Lib.AppendStr
import Derived.Test.YtebiidfpgdolnaaDoorMx
namespace Go.Proofs.YtebiidfpgdolnaaDoor.Dmp
open Go.ChangeShapes Go.WideShapes Go.ChangeAt Go.RowKit Go.Deep
set_option linter.unusedVariables false
open Go.Lib
set_option linter.unusedSimpArgs false

/-! ### Slices of frames -/
def frs (l : List (Fr × Value)) : List Value := l.flatMap fun p => (fcells p.1 p.2).toList
theorem frs_length (l : List (Fr × Value)) : (frs l).length = l.length * 12 := by
  induction l with
  | nil => rfl
  | cons p l ih =>
    show ((fcells p.1 p.2).toList ++ frs l).length = _
    rw [List.length_append, ih, List.length_cons]
    show 12 + l.length * 12 = _
    omega
theorem frs_append (a b : List (Fr × Value)) : frs (a ++ b) = frs a ++ frs b := by simp [frs]
theorem frs_at {l : List (Fr × Value)} {k : Nat} {p : Fr × Value} (h : l[k]? = some p) {j : Nat} {u : Value} (hu : (fcells p.1 p.2).toList[j]? = some u) : (frs l)[k * 12 + j]? = some u := by
  induction l generalizing k with
  | nil => simp at h
  | cons q l ih =>
    show ((fcells q.1 q.2).toList ++ frs l)[k * 12 + j]? = _
    cases k with
    | zero =>
      simp at h
      subst h
      rw [Nat.zero_mul, Nat.zero_add, List.getElem?_append_left (List.getElem?_eq_some_iff.1 hu).1]
      exact hu
    | succ k =>
      have := ih (k := k) (by simpa using h)
      have hl : (fcells q.1 q.2).toList.length = 12 := rfl
      rw [List.getElem?_append_right (by rw [hl]; omega), hl, show (k + 1) * 12 + j - 12 = k * 12 + j by omega]
      exact this
/-- The frames in a slice. -/
def Frs (w : World) (v : Value) (l : List (Fr × Value)) : Prop := RdL w 0 12 v l.length (frs l) ∧ ∀ p ∈ l, Ps w p.2 p.1.ps
theorem Frs.below {w w' : World} {v : Value} {l : List (Fr × Value)} (h : Frs w v l) (hb : Below w.heap.size w w') : Frs w' v l :=
  ⟨RdL.below h.1 hb, fun p hp => RdL.below (h.2 p hp) hb⟩
theorem Frs.get {w : World} {v : Value} {l : List (Fr × Value)} (h : Frs w v l) {k : Nat} {p : Fr × Value} (hp : l[k]? = some p) :
    ∃ b off cap, v = .slice (some ⟨b, off, none⟩) l.length cap ∧ l.length ≤ cap ∧ b < w.heap.size ∧
      w.cell? ⟨b, off + k * 12, none⟩ = some (.int .i64 p.1.ty) ∧ w.cell? ⟨b, off + k * 12 + 1, none⟩ = some (.int .i64 p.1.st) ∧ w.cell? ⟨b, off + k * 12 + 2, none⟩ = some (.bool p.1.en) ∧
      w.cell? ⟨b, off + k * 12 + 3, none⟩ = some (.string p.1.da) ∧ w.cell? ⟨b, off + k * 12 + 4, none⟩ = some (.int .i64 p.1.ki) ∧ w.cell? ⟨b, off + k * 12 + 5, none⟩ = some (.int .i64 p.1.on) ∧
      w.cell? ⟨b, off + k * 12 + 6, none⟩ = some (.int .i64 p.1.we) ∧ w.cell? ⟨b, off + k * 12 + 7, none⟩ = some (.bool p.1.ex) ∧ w.cell? ⟨b, off + k * 12 + 8, none⟩ = some (.int .i64 p.1.co) ∧
      w.cell? ⟨b, off + k * 12 + 9, none⟩ = some (.int .i64 p.1.la) ∧ w.cell? ⟨b, off + k * 12 + 10, none⟩ = some (.int .i64 p.1.n) ∧ w.cell? ⟨b, off + k * 12 + 11, none⟩ = some p.2 := by
  have hk := (List.getElem?_eq_some_iff.1 hp).1
  obtain ⟨b, off, cap, e, hc, -, hb, hr⟩ := RdL.some_of h.1 (by omega)
  have hc' := fun j u (hu : (fcells p.1 p.2).toList[j]? = some u) => hr _ _ (frs_at hp hu)
  refine ⟨b, off, cap, e, hc, hb, ?_⟩
  simp only [Nat.add_assoc]
  exact ⟨hc' 0 _ rfl, hc' 1 _ rfl, hc' 2 _ rfl, hc' 3 _ rfl, hc' 4 _ rfl, hc' 5 _ rfl, hc' 6 _ rfl, hc' 7 _ rfl, hc' 8 _ rfl, hc' 9 _ rfl, hc' 10 _ rfl, hc' 11 _ rfl⟩

/-! ### Frames that a call has gathered -/
theorem RdL.keep1 {w w' : World} {lo size n : Nat} {v : Value} {xs : List Value} {row : Option Nat} (h : RdL w lo size v n xs) (hg : w.grownBy w' row) (hn : 0 < n → ∀ a m c, v = .slice (some a) m c → some a.block ≠ row) : RdL w' lo size v n xs := by
  obtain ⟨ao, cap, h1, h2, h3, h4, h5⟩ := h
  refine ⟨ao, cap, h1, h2, h3, h4, fun b hb hn0 => ?_⟩
  obtain ⟨k1, k2, k3, k4⟩ := h5 b hb hn0
  have hs := hg.size
  refine ⟨k1, k2, by omega, fun j u hu => ?_⟩
  rw [← k4 j u hu]
  refine World.cell?_of_block ?_
  rw [add_block]
  exact hg.block _ k3 (hn hn0 _ _ _ (by rw [h1, hb]))
def Apart (v : Value) (p : Fr × Value) : Prop := 0 < p.1.ps.length → ∀ a m c, p.2 = .slice (some a) m c → some a.block ≠ v.ownBlock
structure FrO (w : World) (B : Nat) (v : Value) (l : List (Fr × Value)) : Prop where
  ow : w.ownsRow B 26 12 v l.length (frs l)
  ps : ∀ p ∈ l, Ps w p.2 p.1.ps ∧ Apart v p
theorem FrO.nil (w : World) (B : Nat) : FrO w B (.slice none 0 0) [] := ⟨World.ownsRow_nil _ _ _ _, fun _ h => by simp at h⟩
theorem FrO.below {w w' : World} {B : Nat} {v : Value} {l : List (Fr × Value)} (h : FrO w B v l) (hb : Below w.heap.size w w') : FrO w' B v l :=
  ⟨owns_below h.ow hb, fun p hp => ⟨RdL.below (h.ps p hp).1 hb, (h.ps p hp).2⟩⟩
theorem FrO.frs {w : World} {B : Nat} {v : Value} {l : List (Fr × Value)} (h : FrO w B v l) : Frs w v l := ⟨RdL.owned h.ow (Nat.zero_le _), fun p hp => (h.ps p hp).1⟩
theorem ps_block {w : World} {lo : Nat} {v : Value} {ps : List (Int × Int)} (h : PsA w lo v ps) (hn : 0 < ps.length) {a : Addr} {m c : Nat} (e : v = .slice (some a) m c) : lo ≤ a.block ∧ a.block < w.heap.size := by
  obtain ⟨ao, cap, h1, -, -, -, h5⟩ := h
  rw [e] at h1
  injection h1 with h1
  obtain ⟨-, k2, k3, -⟩ := h5 a h1.symm hn
  exact ⟨k2, k3⟩
theorem FrO.add {w w' : World} {B lo g cap : Nat} {v : Value} {l : List (Fr × Value)} {f : Fr} {pv : Value} (h : FrO w B v l) (hp : PsA w lo pv f.ps) (hlo : ∀ i, v.ownBlock = some i → i < lo)
    (hown : w'.ownsRow B 26 12 (.slice (some ⟨g, 0, none⟩) (l.length + 1) cap) (l.length + 1) (Dmp.frs l ++ (fcells f pv).toList)) (hg : w.grownBy w' v.ownBlock) (hat : v.ownBlock = some g ∨ g = w.heap.size) :
    FrO w' B (.slice (some ⟨g, 0, none⟩) (l.length + 1) cap) (l ++ [(f, pv)]) := by
  have hnew : Apart v (f, pv) := fun hn a m c e he => by
    have h1 := (ps_block hp hn e).1
    have h2 := hlo _ he.symm
    omega
  have hall : ∀ p ∈ l ++ [(f, pv)], Ps w p.2 p.1.ps ∧ Apart v p := fun p hm => by
    rcases List.mem_append.1 hm with hm | hm
    · exact h.ps p hm
    · simp at hm; subst hm; exact ⟨hp.ps, hnew⟩
  refine ⟨?_, fun p hm => ?_⟩
  · rw [List.length_append, frs_append]
    simpa [Dmp.frs] using hown
  · obtain ⟨h1, h2⟩ := hall p hm
    refine ⟨RdL.keep1 h1 hg h2, fun hn a m c e he => ?_⟩
    have h3 := (ps_block (lo := 0) h1 hn e).2
    rcases hat with hat | hat
    · exact h2 hn a m c e (by rw [hat]; exact he)
    · have h4 : a.block = g := by simpa [Value.ownBlock] using he
      omega

/-! ### What All answers -/
def catB (l : List (Fr × Value)) : ByteArray := mkB (l.flatMap fun p => (lineB p.1).data.toList ++ [10])
theorem catB_nil : catB [] = ByteArray.empty := rfl
theorem catB_add (l : List (Fr × Value)) (p : Fr × Value) : catB (l ++ [p]) = catB l ++ (lineB p.1 ++ ⟨#[10]⟩) := by
  apply ByteArray.ext
  rw [ByteArray.data_append, ByteArray.data_append]
  apply Array.ext'
  simp [catB, mkB]
theorem catB_add' (l : List (Fr × Value)) (p : Fr × Value) : catB (l ++ [p]) = (catB l ++ lineB p.1) ++ ⟨#[10]⟩ := by
  apply ByteArray.ext
  rw [ByteArray.data_append, ByteArray.data_append]
  apply Array.ext'
  simp [catB, mkB]
def allE (l : List (Fr × Value)) : Int := if 512 < l.length then 4 else if (∀ p ∈ l, checkB p.1 = true) then 0 else 2
def allS (l : List (Fr × Value)) : ByteArray := if allE l = 0 then catB l else ByteArray.empty
theorem all_big {l : List (Fr × Value)} (h : 512 < l.length) : allE l = 4 ∧ allS l = ByteArray.empty := by
  have h1 : allE l = 4 := by unfold allE; rw [if_pos h]
  exact ⟨h1, by unfold allS; rw [h1]; rfl⟩
theorem all_yes {l : List (Fr × Value)} (h : ¬ 512 < l.length) (hy : ∀ k p, k < l.length → l[k]? = some p → checkB p.1 = true) : allE l = 0 ∧ allS l = catB l := by
  have h1 : allE l = 0 := by
    unfold allE
    rw [if_neg h, if_pos]
    intro p hp
    obtain ⟨k, hk, e⟩ := List.mem_iff_getElem.1 hp
    exact hy k p hk (by rw [List.getElem?_eq_getElem hk, e])
  exact ⟨h1, by unfold allS; rw [h1]; rfl⟩
theorem all_no {l : List (Fr × Value)} (h : ¬ 512 < l.length) {k : Nat} {p : Fr × Value} (hp : l[k]? = some p) (hn : checkB p.1 = false) : allE l = 2 ∧ allS l = ByteArray.empty := by
  have h1 : allE l = 2 := by
    unfold allE
    rw [if_neg h, if_neg]
    intro hc
    have := hc p (List.mem_of_getElem? hp)
    rw [hn] at this
    cases this
  exact ⟨h1, by unfold allS; rw [h1]; rfl⟩

theorem und40 : Tryd.prog.underlying 40 = some (.slice 26) := by kernel_rfl

set_option maxRecDepth 100000 in
set_option maxHeartbeats 3200000 in
theorem dall_any (l : List (Fr × Value)) (v : Value) (w : World) (hF : Frs w v l) (hS : ∀ (k : Nat) (p : Fr × Value), l[k]? = some p → (∀ (j : Nat) (q : Fr × Value), j < k → l[j]? = some q → checkB q.1 = true) → p.1.ps.length ≤ 30000) :
    Calls Tryd.prog 15 #[v] w fun e w' => e = .returned (.tuple #[.string (allS l), .int .i64 (allE l)]) ∧ Below w.heap.size w w' := by
  obtain ⟨va, vc, rfl, -, -, -⟩ := RdL.cap_of hF.1
  obtain ⟨m, hm⟩ : ∃ m, l.length = m := ⟨_, rfl⟩
  rw [hm] at hF ⊢
  by_cases hbig : 512 < m
  · obtain ⟨e1, e2⟩ := all_big (l := l) (by omega)
    rw [e1, e2]
    have g1 : (512 : Int) < (m : Int) := by omega
    clear hF hS hm e1 e2
    go_enter Tryd.func15, Tryd.ntmps15
    go_wp2_with fail
    go_ret2
    exact ⟨rfl, Below.refl _ _⟩
  · have g1 : ¬ (512 : Int) < (m : Int) := by omega
    obtain ⟨i5, hi5, hz0, hz1, hz2⟩ := info_parts' info5
    have hyes := fun (h : ∀ k p, k < l.length → l[k]? = some p → checkB p.1 = true) => all_yes (l := l) (by omega) h
    have hno := fun (k : Nat) (p : Fr × Value) (h1 : l[k]? = some p) (h2 : checkB p.1 = false) => all_no (l := l) (by omega) (k := k) (p := p) h1 h2
    have HX := Lib.hid (And.intro hF (And.intro hS (And.intro hyes (And.intro hno hm))))
    clear hF hS hyes hno hm
    go_enter Tryd.func15, Tryd.ntmps15
    go_wp2_with fail
    go_loopw [14, 4] (fun i o wr => ∃ k : Nat, k ≤ m ∧ i = .int .i64 k ∧ Hid (wr.ownsRow w.heap.size 5 1 o (catB (l.take k)).size (strCells (catB (l.take k))) ∧ Below w.heap.size w wr ∧ (∀ (j : Nat) (q : Fr × Value), j < k → l[j]? = some q → checkB q.1 = true) ∧ (catB (l.take k)).size ≤ 2001 * k)) (fun i _ _ => m - (RowKit.intOf i).toNat)
    case atStart => exact ⟨0, Nat.zero_le _, rfl, Lib.hid ⟨World.ownsRow_nil _ _ _ _, Below.refl _ _, fun j q hj => absurd hj (Nat.not_lt_zero j), Nat.le_refl _⟩⟩
    case round =>
      obtain ⟨k, hk, rfl, HK⟩ := hrel
      obtain ⟨oa, oc, hov⟩ := owns_slice HK.out.1
      subst hov
      rcases (show k < m ∨ k = m by omega) with hlt | rfl
      · obtain ⟨p, hp⟩ : ∃ p, l[k]? = some p := ⟨l[k]'(by have := HX.out.2.2.2.2; omega), List.getElem?_eq_getElem _⟩
        have hft := Frs.below (by have := HX.out.1; have h9 := HX.out.2.2.2.2; exact h9 ▸ this) HK.out.2.1
        have hps := hft.2 p (List.mem_of_getElem? hp)
        have h3 := HX.out.2.1 k p hp HK.out.2.2.1
        obtain ⟨b, off, cap, e1, -, hb, c0, c1, c2, c3, c4, c5, c6, c7, c8, c9, c10, c11⟩ := hft.get hp
        injection e1 with e1 e2 e3
        subst e1 e3
        have htk : l.take (k + 1) = l.take k ++ [p] := by rw [List.take_add_one, hp]; rfl
        have hno := HX.out.2.2.2.1 k p hp
        have hst : checkB p.1 = true → ∀ (j : Nat) (q : Fr × Value), j < k + 1 → l[j]? = some q → checkB q.1 = true := fun hC j q hj hq => by
          rcases (show j < k ∨ j = k by omega) with h | rfl
          · exact HK.out.2.2.1 j q h hq
          · rw [hp] at hq; injection hq with hq; rw [← hq]; exact hC
        have hca := catB_add (l.take k) p
        rw [← htk] at hca
        obtain ⟨⟨ty, st, en, da, ki, on, we, ex, co, la, n, ps⟩, pv⟩ := p
        simp only at hps
        obtain ⟨pa, pc, rfl, -, -, -⟩ := RdL.cap_of hps
        obtain ⟨pm, hpm⟩ : ∃ m, ps.length = m := ⟨_, rfl⟩
        rw [hpm] at hps
        simp only [hpm] at h3 c11
        simp only at c0 c1 c2 c3 c4 c5 c6 c7 c8 c9 c10 c11 hno hst hca
        have k0 : (0 : Int) ≤ (k : Int) := by omega
        have k1 : (k : Int) < (m : Int) := by omega
        have w6 : IntKind.i64.wrap ((k : Int) + 1) = (k : Int) + 1 := IntWalk.i64_in _ (by omega)
        have hbs : w.heap.size ≤ wr.heap.size := HK.out.2.1.size
        have hdl := dline_any ty st en da ki on we ex co la n (.slice pa pm pc) ps (by omega) (wr.alloc (.cells #[.int .i64 ty, .int .i64 st, .bool en, .string da, .int .i64 ki, .int .i64 on, .int .i64 we, .bool ex, .int .i64 co, .int .i64 la, .int .i64 n, .slice pa pm pc] 26)) (RdL.below hps (Below.step (Below.refl _ _) _))
        have hb1 := HK.out.2.1.alloc hbs (.cells #[.int .i64 ty, .int .i64 st, .bool en, .string da, .int .i64 ki, .int .i64 on, .int .i64 we, .bool ex, .int .i64 co, .int .i64 la, .int .i64 n, .slice pa pm pc] 26)
        cases hC : checkB ⟨ty, st, en, da, ki, on, we, ex, co, la, n, ps⟩ with
        | false =>
          have hE : checkE ⟨ty, st, en, da, ki, on, we, ex, co, la, n, ps⟩ = 2 := by unfold checkE; rw [hC]; rfl
          have hR : lineR ⟨ty, st, en, da, ki, on, we, ex, co, la, n, ps⟩ = ByteArray.empty := by unfold lineR; rw [hC]; rfl
          rw [hE, hR] at hdl
          obtain ⟨x1, x2⟩ := hno hC
          have HN := Lib.hid (And.intro hdl (And.intro hb1 (And.intro x1 x2)))
          clear hdl hb1 x1 x2 hno hst hca htk HK hk hft hps h3 hE hR hC hb hp
          go_wp2_with fail
          refine HN.out.1.mono ?_
          rintro e1 w1 ⟨rfl, hm1⟩
          have hb2 := HN.out.2.1.trans (hm1.mono HN.out.2.1.size)
          have H2 := Lib.hid hb2
          clear hm1 hb2
          go_wp2_with fail
          go_ret2
          exact ⟨by rw [HN.out.2.2.1, HN.out.2.2.2]; rfl, H2.out⟩
        | true =>
          have hE : checkE ⟨ty, st, en, da, ki, on, we, ex, co, la, n, ps⟩ = 0 := by unfold checkE; rw [hC]; rfl
          have hR : lineR ⟨ty, st, en, da, ki, on, we, ex, co, la, n, ps⟩ = lineB ⟨ty, st, en, da, ki, on, we, ex, co, la, n, ps⟩ := by unfold lineR; rw [hC]; rfl
          rw [hE, hR] at hdl
          have hsz := line_size _ _ _ _ _ _ _ _ _ _ _ _ hC
          have hst2 := hst hC
          obtain ⟨lx, hlx⟩ : ∃ x, lineB ⟨ty, st, en, da, ki, on, we, ex, co, la, n, ps⟩ = x := ⟨_, rfl⟩
          rw [hlx] at hdl hsz hca
          obtain ⟨cx, hcx⟩ : ∃ x, catB (l.take k) = x := ⟨_, rfl⟩
          rw [hcx] at hca HK ⊢
          have hcs : strCells (cx ++ (lx ++ ⟨#[10]⟩)) = strCells cx ++ strCells (lx ++ ⟨#[10]⟩) := by
            simp [strCells]
          have z1 : (lx ++ ⟨#[10]⟩).size = lx.size + 1 := by rw [ByteArray.size_append]; rfl
          have z2 : (cx ++ (lx ++ ⟨#[10]⟩)).size = cx.size + (lx.size + 1) := by rw [ByteArray.size_append, z1]
          have hD : ∀ i, (Value.slice oa cx.size oc).ownBlock = some i → w.heap.size ≤ i := fun i hi => (HK.out.1.lt i hi).1
          have hk1 : k + 1 ≤ m := hlt
          have hlx2 : lx.size ≤ 2000 := by omega
          have hcx2 : cx.size ≤ 2001 * 512 := by have := HK.out.2.2.2; omega
          have HN := Lib.hid (And.intro hdl (And.intro hb1 (And.intro hst2 (And.intro hca (And.intro hcs (And.intro z1 (And.intro z2 (And.intro hD hk1))))))))
          clear hdl hb1 hno hst hst2 hca htk hk hft hps h3 hE hR hC hb hp hlx hsz hcs z1 z2 hD hcx hbs hk1 hlt
          go_wp2_with fail
          clear c0 c1 c2 c3 c4 c5 c6 c7 c8 c9 c10 c11
          refine HN.out.1.mono ?_
          rintro e1 w1 ⟨rfl, hm1⟩
          have hb2 := HN.out.2.1.trans (hm1.mono HN.out.2.1.size)
          have o2 := owns_below (HK.out.1.alloc _) hm1
          have hS2 := hb2.size
          have H2 := Lib.hid (And.intro hb2 (And.intro o2 hS2))
          clear hm1 hb2 o2 hS2
          have z1 := HN.out.2.2.2.2.2.1
          go_wp2_with (at_builtin; refine wpList_append_own_string _ rfl _ _ 64 9 rfl w.heap.size 5 i5 und64s Tryd.underlying9 hi5 hz0 hz1 hz2 _ _ (strCells cx) (by rfl) (by exact H2.out.2.1) _ (by rfl) (by unfold maxLen; omega) (by omega) (by exact H2.out.2.2) ?_)
          intro v5 w5 hown5 hg5 hiff5
          have hb5 := H2.out.1.grown hg5 H2.out.2.2 HN.out.2.2.2.2.2.2.2.1
          rw [← HN.out.2.2.2.2.1, ← HN.out.2.2.2.2.2.2.1, ← HN.out.2.2.2.1] at hown5
          have H5 := Lib.hid (And.intro hown5 hb5)
          clear hown5 hg5 hiff5 hb5
          go_wp2_with fail
          refine ⟨⟨k + 1, HN.out.2.2.2.2.2.2.2.2, rfl, Lib.hid ⟨H5.out.1, H5.out.2, HN.out.2.2.1, ?_⟩⟩, ?_⟩
          · rw [HN.out.2.2.2.1, HN.out.2.2.2.2.2.2.1]
            have := HK.out.2.2.2
            omega
          · have := HN.out.2.2.2.2.2.2.2.2
            show m - ((k : Int) + 1).toNat < m - (k : Int).toNat
            omega
      · have k1 : ¬ ((k : Nat) : Int) < (k : Int) := by omega
        have hl := HX.out.2.2.2.2
        obtain ⟨x1, x2⟩ := HX.out.2.2.1 (fun j q hj hq => HK.out.2.2.1 j q (by omega) hq)
        have htk : l.take k = l := by rw [List.take_of_length_le (by omega)]
        have hb := HK.out.2.1
        have hrun := run_string_of (P := Tryd.prog) (ByteRow.of' (l := (catB (l.take k)).data.toList) HK.out.1) 64 9 5 und64s Tryd.underlying5 Tryd.underlying9
        have hx : (⟨(catB (l.take k)).data.toList.toArray⟩ : ByteArray) = allS l := by rw [htk, x2]
        rw [hx] at hrun
        have HE := Lib.hid (And.intro x1 hb)
        clear x1 x2 hb HK htk hl hk hx
        go_wp2_with fail
        go_ret2
        refine ⟨?_, HE.out.2⟩
        rw [HE.out.1]
        rfl

end Go.Proofs.YtebiidfpgdolnaaDoor.Dmp

namespace Go.Proofs.YtebiidfpgdolnaaDoor.Dmp
open Go.ChangeShapes Go.WideShapes Go.ChangeAt Go.RowKit Go.Deep
set_option linter.unusedVariables false
open Go.Lib Go.Shelf
set_option linter.unusedSimpArgs false

/-! ### strings.Cut of a longer text -/
set_option maxRecDepth 100000 in
set_option maxHeartbeats 1600000 in
theorem slcut2_any (c : UInt8) (s : ByteArray) (hs : s.size ≤ 10000000) (w : World) :
    Calls Tryd.prog 60 #[.string s, .string ⟨#[c]⟩] w fun e w' => CutIs c s e ∧ ∃ m, w' = w.drewN m := by
  by_cases hc : c ∈ s.data.toList
  · obtain ⟨a, b, hab, ha⟩ := split_at c _ hc
    have hi : Lib.indexByte s.data.toList c = a.length := by rw [hab, indexByte_hit c a b ha]
    have hsz : s.size = a.length + 1 + b.length := by
      have : s.data.toList.length = s.size := by simp
      rw [← this, hab]; simp; omega
    obtain ⟨i, hil⟩ : ∃ i, a.length = i := ⟨_, rfl⟩
    have h1 : s.extract 0 i = mkB a := by
      apply ByteArray.ext; apply Array.ext'
      have := Lib.extract_from_zero s i
      rw [this, hab, ← hil]; simp [mkB]
    have h2 : s.extract (i + 1) s.size = mkB b := by
      apply ByteArray.ext; apply Array.ext'
      have := Lib.extract_to_end s (i + 1)
      rw [this, hab, ← hil]; simp [mkB]
    have hx : ∀ x y : ByteArray, s = (x ++ ⟨#[c]⟩) ++ y → c ∉ x.data.toList → mkB a = x ∧ mkB b = y ∧ true = true := by
      intro x y hxy hx
      have e := hit_of c x y hx
      rw [← hxy, hi] at e
      have el : a.length = x.size := by omega
      have e2 : s.data.toList = x.data.toList ++ c :: y.data.toList := by rw [hxy, ByteArray.data_append, ByteArray.data_append]; simp
      rw [hab] at e2
      have e3 : a = x.data.toList ∧ c :: b = c :: y.data.toList := List.append_inj e2 (by rw [el]; simp)
      exact ⟨by rw [e3.1]; rfl, by rw [(List.cons.inj e3.2).2]; rfl, rfl⟩
    have hal : a.length ≤ s.size ∧ b.length ≤ s.size := by omega
    have hout : CutIs c s (.returned (.tuple #[.string (s.extract 0 i), .string (s.extract (i + 1) s.size), .bool true])) := by
      rw [h1, h2]
      exact ⟨_, _, _, rfl, hal.1, hal.2, hx, fun h => absurd hc h⟩
    rw [hil] at hi hsz
    have c0 : ¬ (i : Int) < 0 := by omega
    have c1 : (0 : Int) ≤ (i : Int) := by omega
    have c2 : (i : Int) ≤ (s.size : Int) := by omega
    have c3 : (0 : Int) ≤ (i : Int) + 1 := by omega
    have c4 : (i : Int) + 1 ≤ (s.size : Int) := by omega
    have w1 : IntKind.i64.wrap ((i : Int) + 1) = (i : Int) + 1 := IntWalk.i64_in _ (by omega)
    have n1 : ((i : Int) + 1).toNat = i + 1 := by omega
    have n2 : i ≤ s.size := by omega
    have n3 : i + 1 ≤ s.size := by omega
    have hq := Tryd.stringslite_Index_one s c w
    rw [hi] at hq
    have HX := Lib.hid (And.intro hq hout)
    clear hq hout hx hi hsz hab ha hal h1 h2 hil hc
    go_enter Tryd.func60, Tryd.ntmps60
    go_wp2_with fail
    refine HX.out.1.mono ?_
    rintro e w1 ⟨rfl, rfl⟩
    go_wp2_with fail
    go_quiet (fail)
    go_wp2_with fail
    go_ret3
    exact ⟨HX.out.2, nq, rfl⟩
  · have hi := indexByte_miss c _ hc
    have hx : CutIs c s (.returned (.tuple #[.string s, .string ByteArray.empty, .bool false])) :=
      ⟨s, _, _, rfl, Nat.le_refl _, Nat.zero_le _, fun x y hxy hx => absurd (by rw [hxy, ByteArray.data_append, ByteArray.data_append]; simp) hc, fun _ => rfl⟩
    have hq := Tryd.stringslite_Index_one s c w
    rw [hi] at hq
    have HX := Lib.hid (And.intro hq hx)
    clear hq hx hi hc
    go_enter Tryd.func60, Tryd.ntmps60
    go_wp2_with fail
    refine HX.out.1.mono ?_
    rintro e w1 ⟨rfl, rfl⟩
    go_wp2_with fail
    go_ret3
    exact ⟨HX.out.2, 0, rfl⟩
set_option maxRecDepth 100000 in
theorem cut2_any (c : UInt8) (s : ByteArray) (hs : s.size ≤ 10000000) (w : World) :
    Calls Tryd.prog 38 #[.string s, .string ⟨#[c]⟩] w fun e w' => CutIs c s e ∧ ∃ m, w' = w.drewN m := by
  have h := slcut2_any c s hs w
  have HX := Lib.hid h
  clear h
  go_enter Tryd.func38, Tryd.ntmps38
  go_wp2_with fail
  refine HX.out.mono ?_
  rintro e w1 ⟨⟨a, b, k, rfl, hc⟩, m, rfl⟩
  have HC := Lib.hid hc
  clear hc
  go_wp2_with fail
  go_ret3
  exact ⟨⟨a, b, k, rfl, HC.out⟩, m, rfl⟩


/-! ### What the parts of a text give -/
theorem splB_one (c : UInt8) {t : ByteArray} (h : c ∉ t.data.toList) : splB c t = [t] := by
  unfold splB; rw [spl_one c _ h]; rfl
theorem splB_cut (c : UInt8) {t : ByteArray} (h : c ∈ t.data.toList) : ∃ x y : ByteArray, t = (x ++ ⟨#[c]⟩) ++ y ∧ c ∉ x.data.toList ∧ splB c t = x :: splB c y := by
  obtain ⟨a, b, hab, ha⟩ := split_at c _ h
  refine ⟨mkB a, mkB b, ?_, ha, ?_⟩
  · apply ByteArray.ext
    apply Array.ext'
    rw [ByteArray.data_append, ByteArray.data_append]
    simp [mkB, hab]
  · unfold splB
    rw [hab, spl_cut c a b ha]
    rfl
theorem splB_empty (c : UInt8) : splB c ByteArray.empty = [ByteArray.empty] := splB_one c (by simp)
theorem splB_ne (c : UInt8) (t : ByteArray) : ∃ x r, splB c t = x :: r := by
  cases h : splB c t with
  | nil => exact absurd (by simpa [splB] using h) (spl_ne c t.data.toList)
  | cons x r => exact ⟨x, r, rfl⟩
open Classical in
/-- The frame of a line. -/
noncomputable def frOf (s : ByteArray) : Option Fr := if h : ∃ g, checkB g = true ∧ lineB g = s then some h.choose else none
theorem frOf_yes {s : ByteArray} {f : Fr} (h1 : checkB f = true) (h2 : lineB f = s) (h3 : ∀ g, checkB g = true → lineB g = s → f = g) : frOf s = some f := by
  have h : ∃ g, checkB g = true ∧ lineB g = s := ⟨f, h1, h2⟩
  unfold frOf
  rw [dif_pos h, h3 _ h.choose_spec.1 h.choose_spec.2]
theorem frOf_no {s : ByteArray} (h : ∀ g, checkB g = true → lineB g ≠ s) : frOf s = none := by
  unfold frOf
  rw [dif_neg]
  rintro ⟨g, h1, h2⟩
  exact h g h1 h2
/-- What Lines answers: the frames, the line, the error. -/
noncomputable def linesGo : List ByteArray → Nat → List Fr → List Fr × Nat × Int
  | [], _, o => (o, 0, 0)
  | [p], i, o => if p = ByteArray.empty then (o, 0, 0) else ([], i + 1, 5)
  | p :: q :: r, i, o => if 512 ≤ i then ([], i + 1, 4) else match frOf p with
    | none => ([], i + 1, 30)
    | some f => linesGo (q :: r) (i + 1) (o ++ [f])
theorem lines_end (i : Nat) (o : List Fr) : linesGo [ByteArray.empty] i o = (o, 0, 0) := by unfold linesGo; rw [if_pos rfl]
theorem lines_open {p : ByteArray} (h : p ≠ ByteArray.empty) (i : Nat) (o : List Fr) : linesGo [p] i o = ([], i + 1, 5) := by unfold linesGo; rw [if_neg h]
theorem lines_many {p : ByteArray} {l : List ByteArray} (hl : l ≠ []) {i : Nat} (h : 512 ≤ i) (o : List Fr) : linesGo (p :: l) i o = ([], i + 1, 4) := by
  cases l with
  | nil => exact absurd rfl hl
  | cons q r => unfold linesGo; rw [if_pos h]
theorem lines_bad {p : ByteArray} {l : List ByteArray} (hl : l ≠ []) {i : Nat} (h : ¬ 512 ≤ i) (hf : frOf p = none) (o : List Fr) : linesGo (p :: l) i o = ([], i + 1, 30) := by
  cases l with
  | nil => exact absurd rfl hl
  | cons q r => unfold linesGo; rw [if_neg h, hf]
theorem lines_next {p : ByteArray} {l : List ByteArray} (hl : l ≠ []) {i : Nat} (h : ¬ 512 ≤ i) {f : Fr} (hf : frOf p = some f) (o : List Fr) : linesGo (p :: l) i o = linesGo l (i + 1) (o ++ [f]) := by
  cases l with
  | nil => exact absurd rfl hl
  | cons q r => rw [linesGo, if_neg h, hf]
/-- What Lines of a text answers, in memory. -/
def LinesTo (s : ByteArray) (e : Ending) (w' : World) : Prop :=
  ∃ (v : Value) (l : List (Fr × Value)) (ln : Nat) (er : Int), e = .returned (.tuple #[v, .int .i64 ln, .int .i64 er]) ∧ Frs w' v l ∧ linesGo (splB 10 s) 0 [] = (l.map (·.1), ln, er)

end Go.Proofs.YtebiidfpgdolnaaDoor.Dmp
