import Derived.Test.YtebiidfpgdolnaaDoorOm
import Derived.Test.YtebiidfpgdolnaaDoorNg
namespace Go.Proofs.YtebiidfpgdolnaaDoor.Dmp
open Go.ChangeShapes Go.WideShapes Go.ChangeAt Go.RowKit Go.Deep
set_option linter.unusedVariables false
open Go.Lib Go.Shelf
set_option linter.unusedSimpArgs false

/-- What the loop of DumpAll has gathered. -/
def Got (l : List (Fr × Value)) (wb : ByteArray) (E : Int) : Prop := E = 0 ∧ (∀ p ∈ l, checkB p.1 = true) ∧ wb = catB l ∨ E = 2 ∧ ¬ ∀ p ∈ l, checkB p.1 = true
theorem Got.nil : Got [] ByteArray.empty 0 := .inl ⟨rfl, fun _ h => by simp at h, rfl⟩
theorem Got.bad {l : List (Fr × Value)} {wb : ByteArray} {E : Int} {p : Fr × Value} (h : Got l wb E) (hC : checkB p.1 = false) : Got (l ++ [p]) wb 2 := .inr ⟨rfl, fun hh => by have := hh p (by simp); rw [hC] at this; cases this⟩
theorem Got.good {l : List (Fr × Value)} {wb : ByteArray} {E : Int} {p : Fr × Value} (h : Got l wb E) (hC : checkB p.1 = true) : Got (l ++ [p]) ((wb ++ lineB p.1) ++ ⟨#[10]⟩) E := by
  rcases h with ⟨h1, h2, h3⟩ | ⟨h1, h2⟩
  · refine .inl ⟨h1, fun q hq => ?_, by rw [catB_add', h3]⟩
    rcases List.mem_append.1 hq with hq | hq
    · exact h2 q hq
    · simp at hq; subst hq; exact hC
  · exact .inr ⟨h1, fun hh => h2 fun q hq => hh q (by simp [hq])⟩

set_option maxRecDepth 100000 in
set_option maxHeartbeats 12800000 in
/-- The law DumpAll. -/
theorem all_law (l : List (Fr × Value)) (v : Value) (s : ByteArray) (w : World) (hF : Frs w v l) : Calls Tryd.prog 6 #[v, .string s] w fun e w' => e = .returned (.bool true) ∧ Below w.heap.size w w' := by
  obtain ⟨va, vc, rfl, -, -, -⟩ := RdL.cap_of hF.1
  obtain ⟨m, hm⟩ : ∃ m, l.length = m := ⟨_, rfl⟩
  rw [hm] at hF ⊢
  by_cases h6 : 600 < m
  · have g1 : (600 : Int) < (m : Int) := by omega
    clear hF hm
    go_enter Tryd.func6, Tryd.ntmps6
    go_wp2_with fail
    refine (awake_any _).mono ?_
    rintro e1 w1 ⟨rfl, hm1⟩
    have H1 := Lib.hid hm1
    clear hm1
    go_wp2_with fail
    go_ret
    exact ⟨rfl, H1.out⟩
  by_cases h20 : 20000 < s.size
  · have g1 : ¬ (600 : Int) < (m : Int) := by omega
    have g2 : (20000 : Int) < (s.size : Int) := by omega
    clear hF hm
    go_enter Tryd.func6, Tryd.ntmps6
    go_wp2_with fail
    refine (awake_any _).mono ?_
    rintro e1 w1 ⟨rfl, hm1⟩
    have H1 := Lib.hid hm1
    clear hm1
    go_wp2_with fail
    go_ret
    exact ⟨rfl, H1.out⟩
  have g1 : ¬ (600 : Int) < (m : Int) := by omega
  have g2 : ¬ (20000 : Int) < (s.size : Int) := by omega
  have hpt : ∀ x ∈ splB 10 s, x.size ≤ 25000 := fun x hx => by have := splB_le 10 s x hx; omega
  have HS := Lib.hid hpt
  have HX := Lib.hid (And.intro hF hm)
  clear hF hm hpt
  go_enter Tryd.func6, Tryd.ntmps6
  go_wp2_with fail
  go_loopw [7, 6, 5] (fun i ev wv wr => ∃ (k : Nat) (E : Int) (wb : ByteArray), i = .int .i64 k ∧ ev = .int .i64 E ∧ wv = .string wb ∧ k ≤ m ∧ wb.size ≤ 2001 * k ∧ Hid (Below w.heap.size w wr ∧ (∀ (j : Nat) (q : Fr × Value), j < k → l[j]? = some q → q.1.ps.length ≤ 30000) ∧ Got (l.take k) wb E)) (fun i _ _ _ => m - (RowKit.intOf i).toNat)
  case atStart => exact ⟨0, 0, ByteArray.empty, rfl, rfl, rfl, Nat.zero_le _, Nat.le_refl _, Lib.hid ⟨Below.refl _ _, fun j q hj => absurd hj (Nat.not_lt_zero j), Got.nil⟩⟩
  case round =>
    obtain ⟨k, E, wb, rfl, rfl, rfl, hk, hwb, HK⟩ := hrel
    rcases (show k < m ∨ k = m by omega) with hlt | rfl
    · obtain ⟨p, hp⟩ : ∃ p, l[k]? = some p := ⟨l[k]'(by have := HX.out.2; omega), List.getElem?_eq_getElem _⟩
      have hft := Frs.below HX.out.1 HK.out.1
      have hps := hft.2 p (List.mem_of_getElem? hp)
      obtain ⟨b, off, cap, e1, -, hb, -⟩ := hft.get hp
      injection e1 with e1 e2 e3
      subst e1 e3
      clear e2
      obtain ⟨c0, c1, c2, c3, c4, c5, c6, c7, c8, c9, c10, c11⟩ := hft.cells hp
      have htk : l.take (k + 1) = l.take k ++ [p] := by rw [List.take_add_one, hp]; rfl
      have hgot := HK.out.2.2
      have hbad := hgot.bad (p := p)
      have hgood := hgot.good (p := p)
      rw [← htk] at hbad hgood
      have hlall : p.1.ps.length ≤ 30000 → ∀ (j : Nat) (q : Fr × Value), j < k + 1 → l[j]? = some q → q.1.ps.length ≤ 30000 := fun h9 j q hj hq => by
        rcases (show j < k ∨ j = k by omega) with h | rfl
        · exact HK.out.2.1 j q h hq
        · rw [hp] at hq; injection hq with hq; rw [← hq]; exact h9
      have hcel := fun w' (h : Below wr.heap.size wr w') => (hft.below h).cells hp
      obtain ⟨⟨ty, st, en, da, ki, on, we, ex, co, la, n, ps⟩, pv⟩ := p
      simp only at hps
      obtain ⟨pa, pc, rfl, -, -, -⟩ := RdL.cap_of hps
      obtain ⟨pm, hpm⟩ : ∃ m, ps.length = m := ⟨_, rfl⟩
      have hli := light_any ty st en da ki on we ex co la n _ ps wr hps
      simp only [hpm] at c11 hcel hlall hli
      simp only at c0 c1 c2 c3 c4 c5 c6 c7 c8 c9 c10 c11 hcel hbad hgood
      have k0 : (0 : Int) ≤ (k : Int) := by omega
      have k1 : (k : Int) < (m : Int) := by omega
      have n1 : (k : Int).toNat = k := by omega
      have w6 : IntKind.i64.wrap ((k : Int) + 1) = (k : Int) + 1 := IntWalk.i64_in _ (by omega)
      have hbw := HK.out.1
      cases hL : lightB da pm with
      | false =>
        rw [hL] at hli
        have HN := Lib.hid (And.intro hbw hli)
        clear hbw hli hbad hgood hlall hcel hgot htk hft hps hL hp hb HK hlt hk
        go_wp2_with fail
        clear c0 c1 c2 c3 c4 c5 c6 c7 c8 c9 c10 c11
        refine HN.out.2.mono ?_
        rintro e1 w1 ⟨rfl, hm1⟩
        have H1 := Lib.hid (HN.out.1.trans (hm1.mono HN.out.1.size))
        clear hm1
        go_wp2_with fail
        refine (awake_any _).mono ?_
        rintro e2 w2 ⟨rfl, hm2⟩
        have H2 := Lib.hid (H1.out.trans (hm2.mono H1.out.size))
        clear hm2
        go_wp2_with fail
        go_ret
        exact ⟨rfl, H2.out⟩
      | true =>
        rw [hL] at hli
        have hpl : pm ≤ 30000 := by
          unfold lightB at hL
          simp at hL
          omega
        have hri := fun w' (h : Below wr.heap.size wr w') => right_any ty st en da ki on we ex co la n _ ps (by omega) w' (RdL.below hps h)
        cases hC : checkB ⟨ty, st, en, da, ki, on, we, ex, co, la, n, ps⟩ with
        | false =>
          rw [hC] at hri
          simp only [hpm] at hri
          have HN := Lib.hid (And.intro hbw (And.intro hli (And.intro hri (And.intro hcel (And.intro (hbad hC) (And.intro (hlall hpl) hlt))))))
          clear hbw hli hbad hgood hlall hcel hgot htk hft hps hL hp hb HK hlt hk hri hC
          go_wp2_with fail
          clear c0 c1 c2 c3 c4 c5 c6 c7 c8 c9 c10 c11
          refine HN.out.2.1.mono ?_
          rintro e1 w1 ⟨rfl, hm1⟩
          obtain ⟨c0, c1, c2, c3, c4, c5, c6, c7, c8, c9, c10, c11⟩ := HN.out.2.2.2.1 _ hm1
          have H1 := Lib.hid (And.intro (HN.out.1.trans (hm1.mono HN.out.1.size)) hm1)
          clear hm1
          go_wp2_with fail
          clear c0 c1 c2 c3 c4 c5 c6 c7 c8 c9 c10 c11
          refine (HN.out.2.2.1 _ H1.out.2).mono ?_
          rintro e2 w2 ⟨rfl, hm2⟩
          have H2 := Lib.hid (H1.out.1.trans (hm2.mono H1.out.1.size))
          clear hm2
          go_wp2_with fail
          refine ⟨⟨k + 1, 2, wb, rfl, rfl, rfl, HN.out.2.2.2.2.2.2, by omega, Lib.hid ⟨H2.out, HN.out.2.2.2.2.2.1, HN.out.2.2.2.2.1⟩⟩, ?_⟩
          have := HN.out.2.2.2.2.2.2
          show m - ((k : Int) + 1).toNat < m - (k : Int).toNat
          omega
        | true =>
          rw [hC] at hri
          have hsz := line_size _ _ _ _ _ _ _ _ _ _ _ _ hC
          have hrl := fun w' (h : Below wr.heap.size wr w') => rline_any ty st en da ki on we ex co la n _ ps hC w' (RdL.below hps h)
          have hgood := hgood hC
          obtain ⟨lx, hlx⟩ : ∃ x, lineB ⟨ty, st, en, da, ki, on, we, ex, co, la, n, ps⟩ = x := ⟨_, rfl⟩
          rw [hlx] at hrl hgood hsz
          simp only [hpm] at hri hrl
          have t1 : ¬ 9223372036854775807 < wb.size + lx.size := by omega
          have t2 : ¬ 9223372036854775807 < wb.size + lx.size + 1 := by omega
          have z1 : (wb ++ lx).size = wb.size + lx.size := ByteArray.size_append
          have z2 : ((wb ++ lx) ++ ⟨#[10]⟩ : ByteArray).size = wb.size + lx.size + 1 := by rw [ByteArray.size_append, z1]; rfl
          have hsz2 : ((wb ++ lx) ++ ⟨#[10]⟩ : ByteArray).size ≤ 2001 * (k + 1) := by omega
          have HN := Lib.hid (And.intro hbw (And.intro hli (And.intro hri (And.intro hcel (And.intro hgood (And.intro (hlall hpl) (And.intro hlt (And.intro hrl hsz2))))))))
          clear hbw hli hbad hgood hlall hcel hgot htk hft hps hL hp hb HK hlt hk hri hC hrl hlx hsz2 z1 z2
          go_wp2_with fail
          clear c0 c1 c2 c3 c4 c5 c6 c7 c8 c9 c10 c11
          refine HN.out.2.1.mono ?_
          rintro e1 w1 ⟨rfl, hm1⟩
          obtain ⟨c0, c1, c2, c3, c4, c5, c6, c7, c8, c9, c10, c11⟩ := HN.out.2.2.2.1 _ hm1
          have H1 := Lib.hid (And.intro (HN.out.1.trans (hm1.mono HN.out.1.size)) hm1)
          clear hm1
          go_wp2_with fail
          clear c0 c1 c2 c3 c4 c5 c6 c7 c8 c9 c10 c11
          refine (HN.out.2.2.1 _ H1.out.2).mono ?_
          rintro e2 w2 ⟨rfl, hm2⟩
          have hm2b := H1.out.2.trans (hm2.mono H1.out.2.size)
          obtain ⟨c0, c1, c2, c3, c4, c5, c6, c7, c8, c9, c10, c11⟩ := HN.out.2.2.2.1 _ hm2b
          have H2 := Lib.hid (And.intro (H1.out.1.trans (hm2.mono H1.out.1.size)) hm2b)
          clear hm2 hm2b
          go_wp2_with fail
          clear c0 c1 c2 c3 c4 c5 c6 c7 c8 c9 c10 c11
          refine (HN.out.2.2.2.2.2.2.2.1 _ H2.out.2).mono ?_
          rintro e3 w3 ⟨rfl, hm3⟩
          have H3 := Lib.hid (H2.out.1.trans (hm3.mono H2.out.1.size))
          clear hm3
          go_wp2_with fail
          refine ⟨⟨k + 1, E, _, rfl, rfl, rfl, HN.out.2.2.2.2.2.2.1, HN.out.2.2.2.2.2.2.2.2, Lib.hid ⟨H3.out, HN.out.2.2.2.2.2.1, HN.out.2.2.2.2.1⟩⟩, ?_⟩
          have := HN.out.2.2.2.2.2.2.1
          show m - ((k : Int) + 1).toNat < m - (k : Int).toNat
          omega
    · have k1 : ¬ ((k : Nat) : Int) < (k : Int) := by omega
      have htk : l.take k = l := by rw [List.take_of_length_le (by have := HX.out.2; omega)]
      have hgot := HK.out.2.2
      rw [htk] at hgot
      have hlt := HK.out.2.1
      have hft := Frs.below HX.out.1 HK.out.1
      have hda := dall_any l _ wr hft (fun j p hp _ => hlt j p (by have := (List.getElem?_eq_some_iff.1 hp).1; have := HX.out.2; omega) hp)
      by_cases h512 : 512 < k
      · have g5 : (512 : Int) < (k : Int) := by omega
        obtain ⟨e1, e2⟩ := all_big (l := l) (by have := HX.out.2; omega)
        rw [e1, e2] at hda
        have HN := Lib.hid (And.intro hda HK.out.1)
        clear hda hft hlt hgot htk HK e1 e2
        go_wp2_with fail
        refine HN.out.1.mono ?_
        rintro e0 w0 ⟨rfl, hm0⟩
        have H0 := Lib.hid (HN.out.2.trans (hm0.mono HN.out.2.size))
        clear hm0
        go_wp2_with fail
        refine (dlines_any s (by omega) HS.out w0).mono ?_
        rintro e1 w1 ⟨⟨v1, l1, n1, r1, rfl, hf1, hl1⟩, hm1⟩
        have hf1b := hf1
        obtain ⟨a1, d1, rfl, -, -, -⟩ := RdL.cap_of hf1.1
        have A1 := Lib.hid (And.intro (H0.out.trans (hm1.mono H0.out.size)) (And.intro hf1b hl1))
        clear hm1 hf1 hf1b hl1
        go_wp2_with fail
        refine (rlines_any s (by omega) w1).mono ?_
        rintro e2 w2 ⟨⟨v2, l2, n2, r2, rfl, hf2, hl2⟩, hm2⟩
        obtain ⟨a2, d2, rfl, -, -, -⟩ := RdL.cap_of hf2.1
        obtain ⟨q1, rfl, rfl, q4, q5⟩ := lines_same A1.out.2.2 hl2
        have A2 := Lib.hid (And.intro (A1.out.1.trans (hm2.mono A1.out.1.size)) (And.intro (A1.out.2.1.below hm2) (And.intro hf2 (And.intro q1 (And.intro q4 q5)))))
        clear hm2 hf2 hl2 q1 q4 q5
        go_wp2_with fail
        refine (awake_any w2).mono ?_
        rintro e3 w3 ⟨rfl, hm3⟩
        have hsm := rsame_all l1 l2 _ _ w3 (A2.out.2.1.below hm3) (A2.out.2.2.1.below hm3) A2.out.2.2.2.1 A2.out.2.2.2.2.1 A2.out.2.2.2.2.2
        have A3 := Lib.hid (And.intro (A2.out.1.trans (hm3.mono A2.out.1.size)) hsm)
        clear hm3 hsm
        go_wp2_with fail
        refine A3.out.2.mono ?_
        rintro e4 w4 ⟨rfl, hm4⟩
        have A4 := Lib.hid (A3.out.1.trans (hm4.mono A3.out.1.size))
        clear hm4
        go_wp2_with fail
        go_ret
        exact ⟨rfl, A4.out⟩
      · have g5 : ¬ (512 : Int) < (k : Int) := by omega
        rcases hgot with ⟨rfl, hall, rfl⟩ | ⟨rfl, hnot⟩
        · obtain ⟨e1, e2⟩ := all_yes (l := l) (by have := HX.out.2; omega) (fun j p _ hp => hall p (List.mem_of_getElem? hp))
          rw [e1, e2] at hda
          have hcs : (catB l).size ≤ 10000000 := by omega
          have hdl := dlines_any (catB l) hcs (cat_parts hall)
          have hlc := lines_cat hall (by have := HX.out.2; omega) wr
          have hck : ∀ p ∈ l, p.1.ps.length ≤ 30000 := fun p hp => check_ps (hall p hp)
          have HN := Lib.hid (And.intro hda (And.intro HK.out.1 (And.intro hdl (And.intro hlc (And.intro hft hck)))))
          clear hda hft hlt htk HK e1 e2 hcs hdl hlc hck hall hwb
          obtain ⟨cb, hcb⟩ : ∃ c, catB l = c := ⟨_, rfl⟩
          rw [hcb] at HN ⊢
          clear hcb
          go_wp2_with fail
          refine HN.out.1.mono ?_
          rintro e0 w0 ⟨rfl, hm0⟩
          have H0 := Lib.hid (And.intro (HN.out.2.1.trans (hm0.mono HN.out.2.1.size)) (HN.out.2.2.2.2.1.below hm0))
          clear hm0
          go_wp2_with fail
          refine (HN.out.2.2.1 w0).mono ?_
          rintro e5 w5 ⟨⟨v5, l5, n5, r5, rfl, hf5, hl5⟩, hm5⟩
          have hl5' := hl5.symm.trans HN.out.2.2.2.1
          obtain ⟨q1, q2, q3⟩ : l5.map (·.1) = l.map (·.1) ∧ n5 = 0 ∧ r5 = 0 := by
            injection hl5' with q1 q2
            injection q2 with q2 q3
            exact ⟨q1, q2, q3⟩
          subst q2 q3
          obtain ⟨a5, d5, rfl, -, -, -⟩ := RdL.cap_of hf5.1
          have hlen5 : l5.length = l.length := by have := congrArg List.length q1; simpa using this
          have hsm := rsame_all l5 l _ _ w5 hf5 (H0.out.2.below hm5) q1 (by have := HX.out.2; omega) (all_light HN.out.2.2.2.2.2 q1)
          have H5 := Lib.hid (And.intro (H0.out.1.trans (hm5.mono H0.out.1.size)) hsm)
          clear hm5 hf5 hl5 hl5' hsm q1 hlen5
          go_wp2_with fail
          refine H5.out.2.mono ?_
          rintro e6 w6x ⟨rfl, hm6⟩
          have H6 := Lib.hid (H5.out.1.trans (hm6.mono H5.out.1.size))
          clear hm6
          go_wp2_with fail
          refine (dlines_any s (by omega) HS.out w6x).mono ?_
          rintro e1 w1 ⟨⟨v1, l1, n1, r1, rfl, hf1, hl1⟩, hm1⟩
          have hf1b := hf1
          obtain ⟨a1, d1, rfl, -, -, -⟩ := RdL.cap_of hf1.1
          have A1 := Lib.hid (And.intro (H6.out.trans (hm1.mono H6.out.size)) (And.intro hf1b hl1))
          clear hm1 hf1 hf1b hl1
          go_wp2_with fail
          refine (rlines_any s (by omega) w1).mono ?_
          rintro e2 w2 ⟨⟨v2, l2, n2, r2, rfl, hf2, hl2⟩, hm2⟩
          obtain ⟨a2, d2, rfl, -, -, -⟩ := RdL.cap_of hf2.1
          obtain ⟨q1, rfl, rfl, q4, q5⟩ := lines_same A1.out.2.2 hl2
          have A2 := Lib.hid (And.intro (A1.out.1.trans (hm2.mono A1.out.1.size)) (And.intro (A1.out.2.1.below hm2) (And.intro hf2 (And.intro q1 (And.intro q4 q5)))))
          clear hm2 hf2 hl2 q1 q4 q5
          go_wp2_with fail
          refine (awake_any w2).mono ?_
          rintro e3 w3 ⟨rfl, hm3⟩
          have hsm := rsame_all l1 l2 _ _ w3 (A2.out.2.1.below hm3) (A2.out.2.2.1.below hm3) A2.out.2.2.2.1 A2.out.2.2.2.2.1 A2.out.2.2.2.2.2
          have A3 := Lib.hid (And.intro (A2.out.1.trans (hm3.mono A2.out.1.size)) hsm)
          clear hm3 hsm
          go_wp2_with fail
          refine A3.out.2.mono ?_
          rintro e4 w4 ⟨rfl, hm4⟩
          have A4 := Lib.hid (A3.out.1.trans (hm4.mono A3.out.1.size))
          clear hm4
          go_wp2_with fail
          go_ret
          exact ⟨rfl, A4.out⟩
        · have hno : ∃ (j : Nat) (p : Fr × Value), l[j]? = some p ∧ checkB p.1 = false := by
            simp only [Classical.not_forall] at hnot
            obtain ⟨p, hp, hn⟩ := hnot
            obtain ⟨j, hj, e⟩ := List.mem_iff_getElem.1 hp
            exact ⟨j, p, by rw [List.getElem?_eq_getElem hj, e], by simpa using hn⟩
          obtain ⟨j, p, hp, hC⟩ := hno
          obtain ⟨e1, e2⟩ := all_no (l := l) (by have := HX.out.2; omega) hp hC
          rw [e1, e2] at hda
          have HN := Lib.hid (And.intro hda HK.out.1)
          clear hda hft hlt htk HK e1 e2 hp hC hnot
          go_wp2_with fail
          refine HN.out.1.mono ?_
          rintro e0 w0 ⟨rfl, hm0⟩
          have H0 := Lib.hid (HN.out.2.trans (hm0.mono HN.out.2.size))
          clear hm0
          go_wp2_with fail
          refine (dlines_any s (by omega) HS.out w0).mono ?_
          rintro e1 w1 ⟨⟨v1, l1, n1, r1, rfl, hf1, hl1⟩, hm1⟩
          have hf1b := hf1
          obtain ⟨a1, d1, rfl, -, -, -⟩ := RdL.cap_of hf1.1
          have A1 := Lib.hid (And.intro (H0.out.trans (hm1.mono H0.out.size)) (And.intro hf1b hl1))
          clear hm1 hf1 hf1b hl1
          go_wp2_with fail
          refine (rlines_any s (by omega) w1).mono ?_
          rintro e2 w2 ⟨⟨v2, l2, n2, r2, rfl, hf2, hl2⟩, hm2⟩
          obtain ⟨a2, d2, rfl, -, -, -⟩ := RdL.cap_of hf2.1
          obtain ⟨q1, rfl, rfl, q4, q5⟩ := lines_same A1.out.2.2 hl2
          have A2 := Lib.hid (And.intro (A1.out.1.trans (hm2.mono A1.out.1.size)) (And.intro (A1.out.2.1.below hm2) (And.intro hf2 (And.intro q1 (And.intro q4 q5)))))
          clear hm2 hf2 hl2 q1 q4 q5
          go_wp2_with fail
          refine (awake_any w2).mono ?_
          rintro e3 w3 ⟨rfl, hm3⟩
          have hsm := rsame_all l1 l2 _ _ w3 (A2.out.2.1.below hm3) (A2.out.2.2.1.below hm3) A2.out.2.2.2.1 A2.out.2.2.2.2.1 A2.out.2.2.2.2.2
          have A3 := Lib.hid (And.intro (A2.out.1.trans (hm3.mono A2.out.1.size)) hsm)
          clear hm3 hsm
          go_wp2_with fail
          refine A3.out.2.mono ?_
          rintro e4 w4 ⟨rfl, hm4⟩
          have A4 := Lib.hid (A3.out.1.trans (hm4.mono A3.out.1.size))
          clear hm4
          go_wp2_with fail
          go_ret
          exact ⟨rfl, A4.out⟩

end Go.Proofs.YtebiidfpgdolnaaDoor.Dmp
