import Derived.Test.YtdcdfhonkjmpeaaPickRdy
import Derived.Test.YtdcdfhonkjmpeaaPickZ
namespace Go.Proofs.Ytdcdfhonkjmpeaa.Pick
open Go.ChangeShapes Go.WideShapes Go.ChangeAt Go.RowKit Go.Deep
set_option linter.unusedVariables false

set_option maxRecDepth 100000 in
set_option maxHeartbeats 3200000 in
theorem reffirst_any (x : Nat) (L : List (Int × Int)) (f : Int → Int) (T : List Turn) (v : Value) (hL : L.length ≤ 1000000) (hf : ∀ i, ofL L i = f i) (hT : T.length ≤ 1000000) (w : World) (h : RefAt w x L) (hv : Turns w v T) :
    Calls Try.prog 61 #[.pointer (some ⟨x, 0, none⟩), v] w fun e w' => e = .returned (.tuple #[.int .i64 (firstOf f T).1, .bool (firstOf f T).2]) ∧ w = w' := by
  obtain ⟨a, cp, rfl, hcp, hv3⟩ := hv
  obtain ⟨N, hN⟩ : ∃ N, T.length = N := ⟨_, rfl⟩
  have hof := fun i => of_any x L i w hL h
  have HV := Lib.hid (And.intro hv3 (And.intro hof (And.intro hN hf)))
  clear hv3 hof hf
  rw [hN] at hT hcp ⊢
  clear hN h
  go_enter Try.func61, Try.ntmps61
  go_wp2_with fail
  go_loopw [6] (fun k wr => ∃ j : Nat, j ≤ N ∧ k = .int .i64 j ∧ wr = w ∧ (∀ (i : Nat) (u : Turn), i < j → T[i]? = some u → ¬ 1 ≤ f u.1)) (fun k _ => N - (intOf k).toNat)
  case atStart => exact ⟨0, Nat.zero_le _, rfl, rfl, fun i u hi => by omega⟩
  case round =>
    obtain ⟨j, hj, rfl, rfl, hno⟩ := hrel
    rcases (show j < N ∨ j = N by omega) with hjn | hjn
    · have hTl := HV.out.2.2.1
      obtain ⟨t, ht⟩ : ∃ t, T[j]? = some t := ⟨T[j]'(by omega), List.getElem?_eq_getElem _⟩
      obtain ⟨b, off, rfl, hb, hc⟩ := HV.out.1 (by omega)
      obtain ⟨q0, q1, q2⟩ := hc j t ht
      obtain ⟨ti, tw, tr⟩ := t
      simp only at q0 q1 q2
      have HK := Lib.hid (And.intro hno ht)
      clear hno ht hc hTl
      go_wp2_with fail
      refine (HV.out.2.1 ti).mono ?_
      rintro e w1 ⟨rfl, rfl⟩
      obtain ⟨y, hy⟩ : ∃ y, ofL L ti = y := ⟨_, rfl⟩
      have hy2 : f ti = y := by rw [← HV.out.2.2.2, hy]
      have HY := Lib.hid hy2
      rw [hy]
      clear hy hy2
      by_cases h1 : 0 < y
      · have hfo : firstOf f T = (ti, true) := first_skip HK.out.2 (fun i u hi hu => by have := HK.out.1 i u hi hu; omega) (by show 1 ≤ f ti; rw [HY.out]; omega)
        have HFO := Lib.hid hfo
        clear hfo
        go_wp2_with fail
        go_ret2
        exact ⟨by rw [HFO.out]; rfl, rfl⟩
      · go_wp2_with fail
        go_roundw
        case rel => exact ⟨j + 1, by omega, by go_num, (by first | rfl | trivial), fun i u hi hu => by
          rcases (show i < j ∨ i = j by omega) with h2 | h2
          · have := HK.out.1 i u h2 hu
            omega
          · subst h2
            rw [HK.out.2] at hu
            injection hu with hu
            rw [← hu]
            show ¬ 1 ≤ f ti
            rw [HY.out]; omega⟩
        case measure => simp [intOf]; omega
    · subst hjn
      have hfo : firstOf f T = (0, false) := first_none (fun i u hi hu => hno i u (by rw [HV.out.2.2.1] at hi; exact hi) hu)
      have HFO := Lib.hid hfo
      clear hfo
      clear hno
      go_wp2_with fail
      go_ret2
      exact ⟨by rw [HFO.out]; rfl, rfl⟩

theorem after_ref {L : List (Int × Int)} {f : Int → Int} {c : Nat} (h : RefIs L f c) (k : Int) (R : List Turn) (hR : ∀ t ∈ R, Wf t.1) (j : Nat) : ∃ L', RefIs L' (after k R f c j).1 (after k R f c j).2 := by
  induction j with
  | zero => exact ⟨L, h⟩
  | succ j ih =>
    obtain ⟨L', h'⟩ := ih
    cases ht : R[j]? with
    | none =>
      have e : after k R f c (j + 1) = after k R f c j := by simp [after, ht]
      rw [e]
      exact ⟨L', h'⟩
    | some t =>
      rw [after_succ ht]
      exact ⟨_, h'.set t.1 _ (hR t (List.mem_of_getElem? ht))⟩
theorem itr_bnd {R : List Turn} {f : Int → Int} (hf : Bnd f) (k : Nat) : Bnd (itr R f k) := by
  induction k with
  | zero => exact hf
  | succ k ih =>
    intro i
    rw [itr]
    unfold addR
    split
    · exact clamp_bnd _
    · exact ih i
theorem setL_len (L : List (Int × Int)) (i v : Int) : (setL L i v).length ≤ L.length + 1 := by
  unfold setL
  rw [List.length_append]
  have h1 := List.length_filter_le (fun p : Int × Int => p.1 != i) L
  split
  · rw [List.length_singleton]; omega
  · rw [List.length_nil]; omega

/-- The document's Next, read as the pick's. -/
theorem ref_next {f : Int → Int} {c : Nat} {T : List Turn} {L L' : List (Int × Int)} {c' m : Nat} {t0 : Turn} {R0 : List Turn} (hw : ∀ t ∈ T, Wf t.1) (hf : Bnd f) (h : RefIs L f c) (hR : rdyTo T T.length = t0 :: R0) (hm : m ≤ 2000) (h1 : ∀ k, k < m → (firstOf (itr (t0 :: R0) f k) (t0 :: R0)).2 = false) (h2 : (firstOf (itr (t0 :: R0) f m) (t0 :: R0)).2 = true ∨ m = 2000) (h' : RefIs L' (itr (t0 :: R0) f m) c') :
    (nextOf f c T).1 = firstOf (itr (t0 :: R0) f m) (t0 :: R0) ∧ RefIs L' (nextOf f c T).2.1 (nextOf f c T).2.2 := by
  have ha : Apart (t0 :: R0) := by rw [← hR]; exact (rdy_apart T T.length).2
  have hwR : ∀ t ∈ (t0 :: R0), Wf t.1 := fun t ht => hw t (rdyTo_mem T T.length t (hR ▸ ht))
  have hno : nextOf f c T = if (firstOf f (t0 :: R0)).2 = true then (firstOf f (t0 :: R0), f, c) else (firstOf (after (fewest f (t0 :: R0) (need f t0) (t0 :: R0).length) (t0 :: R0) f c (t0 :: R0).length).1 (t0 :: R0), after (fewest f (t0 :: R0) (need f t0) (t0 :: R0).length) (t0 :: R0) f c (t0 :: R0).length) := by
    unfold nextOf
    rw [hR]
  cases hfo : (firstOf f (t0 :: R0)).2 with
  | true =>
    have hm0 : m = 0 := by
      rcases Nat.eq_zero_or_pos m with e | e
      · exact e
      · have := h1 0 e
        rw [show itr (t0 :: R0) f 0 = f from rfl, hfo] at this
        cases this
    subst hm0
    rw [hno, hfo, if_pos rfl]
    refine ⟨rfl, ?_⟩
    have := h.cnt h'
    subst this
    exact h'
  | false =>
    obtain ⟨e1, e2, e3⟩ := next_same ha hf hfo (t0 := t0) rfl hm h1 h2
    rw [hno, hfo, if_neg (by decide)]
    have haf := after_all ha (fewest f (t0 :: R0) (need f t0) (t0 :: R0).length) f c
    obtain ⟨L1, h3⟩ := after_ref h (fewest f (t0 :: R0) (need f t0) (t0 :: R0).length) (t0 :: R0) hwR (t0 :: R0).length
    refine ⟨by rw [haf, e2], ?_⟩
    show RefIs L' (after (fewest f (t0 :: R0) (need f t0) (t0 :: R0).length) (t0 :: R0) f c (t0 :: R0).length).1 _
    have h4 : RefIs L' (after (fewest f (t0 :: R0) (need f t0) (t0 :: R0).length) (t0 :: R0) f c (t0 :: R0).length).1 c' := by rw [haf, ← e2]; exact h'
    have := h3.cnt h4
    rw [this]
    exact h4

set_option maxRecDepth 100000 in
set_option maxHeartbeats 3200000 in
theorem refnext_any (x : Nat) (L : List (Int × Int)) (f : Int → Int) (c : Nat) (T : List Turn) (v : Value) (hL : L.length ≤ 100000) (hr : RefIs L f c) (hf : Bnd f) (hT : T.length ≤ 100) (hw : ∀ t ∈ T, Wf t.1) (w : World) (h : RefAt w x L) (hv : Turns w v T) :
    Calls Try.prog 42 #[.pointer (some ⟨x, 0, none⟩), v] w fun e w' => e = .returned (.tuple #[.int .i64 (nextOf f c T).1.1, .bool (nextOf f c T).1.2]) ∧ ∃ L', RefAt w' x L' ∧ RefIs L' (nextOf f c T).2.1 (nextOf f c T).2.2 ∧ w.grownBy w' (some x) := by
  obtain ⟨B, hB⟩ : ∃ B, w.heap.size = B := ⟨_, rfl⟩
  obtain ⟨R, hR⟩ : ∃ R, rdyTo T T.length = R := ⟨_, rfl⟩
  have hRl : R.length ≤ T.length := by rw [← hR]; exact rdyTo_len T T.length
  have hwR : ∀ t ∈ R, Wf t.1 := fun t ht => hw t (rdyTo_mem T T.length t (hR ▸ ht))
  have hap : Apart R := by rw [← hR]; exact (rdy_apart T T.length).2
  have hrd := refready_any T v (by omega) w hv
  have hxl := h.lt
  have H1 := Lib.hid (And.intro hrd (And.intro h (And.intro hr (And.intro hf hw))))
  have HR := Lib.hid (And.intro hR (And.intro hwR hap))
  rw [hB] at hxl
  clear hrd h hr hf hw hR hwR hap hv
  have HB := Lib.hid hB
  clear hB
  go_enter Try.func42, Try.ntmps42
  go_wp2_with fail
  refine H1.out.1.mono ?_
  rintro e w2 ⟨u, rfl, hown, hb2⟩
  rw [HR.out.1] at hown
  have hx2 := H1.out.2.1.below hb2
  rw [HB.out] at hown hb2
  obtain ⟨a2, k2, rfl⟩ := own_is_slice hown
  have hg2 : w.grownBy w2 (some x) := only_new (by rw [HB.out]; exact hb2) _
  have H2 := Lib.hid (And.intro hown (And.intro hx2 hg2))
  clear hown hx2 hg2 hb2
  rcases (show R = [] ∨ ∃ t0 R0, R = t0 :: R0 from by cases R <;> simp) with hRR | ⟨t0, R0, hRR⟩
  · skip
    have hno : nextOf f c T = ((0, false), f, c) := by unfold nextOf; rw [HR.out.1, hRR]
    have HNO := Lib.hid hno
    clear hno
    subst hRR
    go_wp2_with fail
    go_ret2
    refine ⟨by rw [HNO.out]; rfl, L, H2.out.2.1, by rw [HNO.out]; exact H1.out.2.2.1, H2.out.2.2⟩
  · skip
    have hlen : R.length = R0.length + 1 := by rw [hRR]; rfl
    have hl0 : ¬ (R.length : Int) = 0 := by omega
    have hlp : (0 : Int) < (R.length : Int) := by omega
    obtain ⟨N, hN⟩ : ∃ N, R.length = N := ⟨_, rfl⟩
    have hft := reffirst_any x L f R _ (by omega) H1.out.2.2.1.2.1 (by omega) w2 H2.out.2.1 (turns_own H2.out.1)
    rw [hN] at hft H2 hl0 hlp hRl hlen ⊢
    have HF := Lib.hid (And.intro hft (And.intro hRR hN))
    clear hft hRR hN hlen
    go_wp2_with fail
    refine HF.out.1.mono ?_
    rintro e w3 ⟨rfl, rfl⟩
    go_wp2_with fail
    go_loopw [6, 7, 8] (fun vi vs k wr => ∃ (m : Nat) (L' : List (Int × Int)) (c' : Nat), m ≤ 2000 ∧ k = .int .i64 m ∧ vi = .int .i64 (firstOf (itr R f m) R).1 ∧ vs = .bool (firstOf (itr R f m) R).2 ∧ (∀ q, q < m → (firstOf (itr R f q) R).2 = false) ∧ RefAt wr x L' ∧ RefIs L' (itr R f m) c' ∧ L'.length ≤ 100000 + 100 * m ∧ wr.ownsRow B 62 3 (.slice a2 N k2) N (cellsT R) ∧ w.grownBy wr (some x)) (fun _ _ k _ => 2000 - (intOf k).toNat)
    case atStart => exact ⟨0, L, c, by omega, rfl, rfl, rfl, fun q hq => by omega, H2.out.2.1, H1.out.2.2.1, by omega, H2.out.1, H2.out.2.2⟩
    case round =>
      obtain ⟨m, L', c', hm, rfl, rfl, rfl, hno, hx, hri, hlen, hown, hg⟩ := hrel
      have HK := Lib.hid (And.intro hno (And.intro hx (And.intro hri (And.intro hown hg))))
      clear hno hx hri hown hg
      have hbF := itr_bnd (R := R) H1.out.2.2.2.1 m
      obtain ⟨F, hF⟩ : ∃ F, itr R f m = F := ⟨_, rfl⟩
      rw [hF] at hbF
      have HFF := Lib.hid (And.intro hF hbF)
      rw [hF]
      clear hF hbF
      rcases (show (m = 2000 ∨ (firstOf F R).2 = true) ∨ (m < 2000 ∧ (firstOf F R).2 = false) by
        cases (firstOf F R).2 <;> simp <;> omega) with hend | ⟨hm2, hfo⟩
      · have hrn := ref_next (c := c) (T := T) (L := L) (L' := L') (c' := c') (m := m) (t0 := t0) (R0 := R0) (f := f) H1.out.2.2.2.2 H1.out.2.2.2.1 H1.out.2.2.1 (by rw [HR.out.1]; exact HF.out.2.1) hm (by rw [← HF.out.2.1]; exact HK.out.1) (by rw [← HF.out.2.1, HFF.out.1]; exact hend.symm) (by rw [← HF.out.2.1]; exact HK.out.2.2.1)
        rw [← HF.out.2.1, HFF.out.1] at hrn
        have HN := Lib.hid hrn
        clear hrn
        obtain ⟨y, hy⟩ : ∃ y, firstOf F R = y := ⟨_, rfl⟩
        rw [hy] at hend HN ⊢
        obtain ⟨y1, y2⟩ := y
        simp only at hend ⊢
        rcases (show (y2 = true) ∨ (y2 = false ∧ m = 2000) by cases y2 <;> simp at hend ⊢; exact hend) with rfl | ⟨rfl, rfl⟩
        · by_cases hmm : m < 2000
          · go_wp2_with fail
            go_ret2
            exact ⟨by rw [HN.out.1]; rfl, L', HK.out.2.1, HN.out.2, HK.out.2.2.2.2⟩
          · go_wp2_with fail
            go_ret2
            exact ⟨by rw [HN.out.1]; rfl, L', HK.out.2.1, HN.out.2, HK.out.2.2.2.2⟩
        · go_wp2_with fail
          go_ret2
          exact ⟨by rw [HN.out.1]; rfl, L', HK.out.2.1, HN.out.2, HK.out.2.2.2.2⟩
      · rw [hfo]
        have HFO := Lib.hid hfo
        clear hfo
        have hzero : (after 1 R F 0 0).1 = F := rfl
        go_wp2_with fail
        go_loopw [9] (fun i w4 => ∃ (j : Nat) (L2 : List (Int × Int)) (c2 : Nat), j ≤ N ∧ i = .int .i64 j ∧ RefAt w4 x L2 ∧ RefIs L2 (after 1 R F 0 j).1 c2 ∧ L2.length ≤ 100000 + 100 * m + j ∧ w4.ownsRow B 62 3 (.slice a2 N k2) N (cellsT R) ∧ w.grownBy w4 (some x)) (fun i _ => N - (intOf i).toNat)
        case atStart => exact ⟨0, L', c', Nat.zero_le _, rfl, HK.out.2.1, by rw [hzero, ← HFF.out.1]; exact HK.out.2.2.1, by omega, HK.out.2.2.2.1, HK.out.2.2.2.2⟩
        case round =>
          obtain ⟨j, L2, c2, hj, rfl, hx2, hri2, hln2, hown2, hg2⟩ := hrel
          rcases (show j < N ∨ j = N by omega) with hjn | hjn
          · obtain ⟨t, ht⟩ : ∃ t, R[j]? = some t := ⟨R[j]'(by have := HF.out.2.2; omega), List.getElem?_eq_getElem _⟩
            obtain ⟨aa, cc, e1, _, h3⟩ := turns_own hown2
            obtain ⟨bq, oq, e2, hbq, h4⟩ := h3 (by rw [HF.out.2.2]; omega)
            injection e1 with e1 e5 e6
            clear e5 e6
            rw [e2] at e1
            subst e1
            obtain ⟨q0, q1, q2⟩ := h4 j t ht
            clear h3 h4
            have hbB : B ≤ bq := by
              rcases hown2.lt bq rfl with h
              omega
            have has := after_succ (k := 1) (f := F) (c := 0) ht
            have hfj := after_bnd HFF.out.2 1 R 0 j
            have hwt := HR.out.2.1 t (List.mem_of_getElem? ht)
            obtain ⟨fj, hfjj⟩ : ∃ fj, (after 1 R F 0 j).1 = fj := ⟨_, rfl⟩
            have has1 : (after 1 R F 0 (j + 1)).1 = upd fj t.1 (clamp (fj t.1 + 1 * weightOf t.2.1)) := by rw [has, ← hfjj]
            rw [hfjj] at hri2 hfj
            clear has hfjj
            have hset := hri2.set t.1 (fj t.1 + 1 * weightOf t.2.1) hwt
            have hwp := weightOf_pos t.2.1
            rw [Int.one_mul] at has1 hset
            obtain ⟨ti, tw, tr⟩ := t
            simp only at q0 q1 q2 has1 hset hwp hwt
            obtain ⟨z, hz⟩ : ∃ z, weightOf tw = z := ⟨_, rfl⟩
            rw [hz] at has1 hset hwp
            have hfb := hfj ti
            have hofi : ofL L2 ti = fj ti := hri2.2.1 ti
            obtain ⟨y, hy⟩ : ∃ y, fj ti = y := ⟨_, rfl⟩
            rw [hy] at has1 hset hfb hofi
            have hsl := setL_len L2 ti (y + z)
            have hw1 : IntKind.i64.wrap (y + z) = y + z := IntWalk.i64_in _ (by omega)
            have hL2b : L2.length ≤ 1000000 := by omega
            have hofA : ∀ d, Calls Try.prog 40 #[.pointer (some ⟨x, 0, none⟩), .int .i64 ti] (wr.drewN d) fun e w' => e = .returned (.int .i64 y) ∧ wr.drewN d = w' := by
              intro d
              have := of_any x L2 ti (wr.drewN d) hL2b (hx2.below (below_drewN (Below.refl _ _) d))
              rw [hofi] at this
              exact this
            have hweA : ∀ d, Calls Try.prog 62 #[.int .i64 tw] (wr.drewN d) fun e w' => e = .returned (.int .i64 z) ∧ wr.drewN d = w' := by
              intro d
              have := refweight_any tw (wr.drewN d)
              rw [hz] at this
              exact this
            have hseA : ∀ d, Calls Try.prog 39 #[.pointer (some ⟨x, 0, none⟩), .int .i64 ti, .int .i64 (y + z)] (wr.drewN d) fun e w' => e = .returned (.tuple #[]) ∧ RefAt w' x (setL L2 ti (y + z)) ∧ (wr.drewN d).grownBy w' (some x) := fun d =>
              refset_any x L2 ti (y + z) (wr.drewN d) hL2b (hx2.below (below_drewN (Below.refl _ _) d))
            have hfin : ∀ d w5, (wr.drewN d).grownBy w5 (some x) → w5.ownsRow B 62 3 (.slice (some ⟨bq, oq, none⟩) N k2) N (cellsT R) ∧ w.grownBy w5 (some x) := by
              intro d w5 hg5
              refine ⟨(below_own hown2 d).kept hg5 (.inr fun e => ?_), only_trans (only_drewN hg2 d) hg5⟩
              have := (hown2.lt x (by injection e with e; exact e ▸ rfl)).1
              omega
            have HW := Lib.hid (And.intro has1 (And.intro hset (And.intro hsl (And.intro hofA (And.intro hweA (And.intro hseA hfin))))))
            clear has1 hset hsl hofA hweA hseA hfin hown2 hg2 hx2 hri2 hfj hofi hy hz hwp hfb hwt ht
            go_wp2_with fail
            go_region_held3 (fun w' => w'.cell? ⟨bq, oq + j * 3, none⟩ = some (.int .i64 ti) ∧ w'.cell? ⟨bq, oq + j * 3 + 1, none⟩ = some (.int .i64 tw)) (first | exact ⟨r0, r1⟩ | exact ⟨q0, q1⟩ | go_keep)
              (first
                | (go_at_call 40; go_must (first | refine (HW.out.2.2.2.1 0).mono ?_ | refine (HW.out.2.2.2.1 1).mono ?_); rintro e w' ⟨rfl, rfl⟩)
                | (go_at_call 62; go_must (first | refine (HW.out.2.2.2.2.1 0).mono ?_ | refine (HW.out.2.2.2.2.1 1).mono ?_); rintro e w' ⟨rfl, rfl⟩)
                | (go_at_call 39; go_must (first | refine (HW.out.2.2.2.2.2.1 0).mono ?_ | refine (HW.out.2.2.2.2.2.1 1).mono ?_); rintro e w6 ⟨rfl, hx6, hg6⟩
                   have r0 : w6.cell? ⟨bq, oq + j * 3, none⟩ = some (.int .i64 ti) := hg6.cell (by exact q0) (by simp; omega)
                   have r1 : w6.cell? ⟨bq, oq + j * 3 + 1, none⟩ = some (.int .i64 tw) := hg6.cell (by exact q1) (by simp; omega)
                   obtain ⟨k1, k2'⟩ := (by first | exact HW.out.2.2.2.2.2.2 0 w6 (by exact hg6) | exact HW.out.2.2.2.2.2.2 1 w6 (by exact hg6) : _ ∧ w.grownBy w6 (some x))
                   have HS6 := Lib.hid (And.intro hx6 (And.intro k1 k2'))
                   clear hx6 hg6 k1 k2'))
            all_goals
              clear q0 q1 q2 r0 r1
              go_wp2_with fail
              go_roundw
              case rel => exact ⟨j + 1, setL L2 ti (y + z), _, by omega, by go_num, HS6.out.1, by rw [HW.out.1]; exact HW.out.2.1, by have := HW.out.2.2.1; omega, HS6.out.2.1, HS6.out.2.2⟩
              case measure => simp [intOf]; omega
          · subst hjn
            have hri3 : RefIs L2 (itr R f (m + 1)) c2 := by
              have e : (after 1 R F 0 j).1 = itr R f (m + 1) := by
                have := after_all HR.out.2.2 1 F 0
                rw [HF.out.2.2] at this
                rw [this, itr, HFF.out.1]
              rw [← e]; exact hri2
            have hft := reffirst_any x L2 (itr R f (m + 1)) R _ (by omega) hri3.2.1 (by rw [HF.out.2.2]; omega) wr hx2 (turns_own hown2)
            have HZ := Lib.hid (And.intro hft (And.intro hri3 (And.intro hx2 (And.intro hown2 hg2))))
            clear hft hri3 hx2 hown2 hg2 hri2
            go_wp2_with fail
            refine HZ.out.1.mono ?_
            rintro e w5 ⟨rfl, rfl⟩
            go_wp2_with fail
            go_roundw
            case rel => exact ⟨m + 1, L2, c2, by omega, by go_num, rfl, rfl, fun q hq => by
              rcases (show q < m ∨ q = m by omega) with h | rfl
              · exact HK.out.1 q h
              · rw [HFF.out.1]; exact HFO.out, HZ.out.2.2.1, HZ.out.2.1, by omega, HZ.out.2.2.2.1, HZ.out.2.2.2.2⟩
            case measure => simp [intOf]; omega

end Go.Proofs.Ytdcdfhonkjmpeaa.Pick
