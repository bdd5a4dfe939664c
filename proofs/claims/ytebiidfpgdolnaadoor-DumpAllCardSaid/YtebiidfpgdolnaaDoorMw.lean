import Derived.Test.YtebiidfpgdolnaaDoorMt
namespace Go.Proofs.YtebiidfpgdolnaaDoor.Dmp
open Go.ChangeShapes Go.WideShapes Go.ChangeAt Go.RowKit Go.Deep
set_option linter.unusedVariables false
open Go.Lib
set_option linter.unusedSimpArgs false

def setW (p : Int × Int) : ByteArray := (dgN p.1 ++ ⟨#[58]⟩) ++ dgN p.2
/-- The words of a line of settings, up to a place. -/
def setWs (ps : List (Int × Int)) (k : Nat) : List ByteArray := ⟨#[115, 101, 116, 116, 105, 110, 103, 115]⟩ :: (ps.take k).map setW
theorem setWs_next {ps : List (Int × Int)} {k : Nat} {p : Int × Int} (h : ps[k]? = some p) : setWs ps (k + 1) = setWs ps k ++ [setW p] := by
  unfold setWs
  rw [List.take_add_one, h]
  simp
theorem setWs_len (ps : List (Int × Int)) (k : Nat) : (setWs ps k).length ≤ k + 1 := by
  unfold setWs
  simp; omega

theorem owns_slice {w : World} {base size n : Nat} {e : TypeId} {v : Value} {xs : List Value} (h : w.ownsRow base e size v n xs) : ∃ a c, v = .slice a n c := by
  rcases h.2 with ⟨h1, h2⟩ | ⟨gg, cap, cur, h1, _⟩
  · exact ⟨none, 0, by rw [h1, h2]⟩
  · exact ⟨_, cap, h1⟩

section
variable (ty st : Int) (en : Bool) (da : ByteArray) (ki on we : Int) (ex : Bool) (co la n : Int) (pv : Value) (ps : List (Int × Int))
set_option maxRecDepth 100000 in
set_option maxHeartbeats 3200000 in
theorem words_5 (hF : FitsB ⟨5, st, en, da, ki, on, we, ex, co, la, n, ps⟩) (w : World) (hP : Ps w pv ps) : Calls Tryd.prog 21 #[.agg #[.int .i64 5, .int .i64 st, .bool en, .string da, .int .i64 ki, .int .i64 on, .int .i64 we, .bool ex, .int .i64 co, .int .i64 la, .int .i64 n, pv]] w fun e w' => ∃ v, e = .returned v ∧ w'.ownsRow (w.heap.size + 1) 9 1 v (wordsB ⟨5, st, en, da, ki, on, we, ex, co, la, n, ps⟩).length (strW (wordsB ⟨5, st, en, da, ki, on, we, ex, co, la, n, ps⟩)) ∧ Below w.heap.size w w' := by
  obtain ⟨f1, f2, f3, f4, f5, f6, f7, f8, f9⟩ := hF
  simp only at f1 f2 f3 f4 f5 f6 f7 f8 f9
  have d1 := fun w => ddg_any st f1 w
  obtain ⟨ao, cap, rfl, hcap, hnone, -⟩ := hP.cap_of
  obtain ⟨m, hm⟩ : ∃ m, ps.length = m := ⟨_, rfl⟩
  unfold Ps at hP
  have hr : wordsB ⟨5, st, en, da, ki, on, we, ex, co, la, n, ps⟩ = setWs ps m := by
    unfold setWs
    rw [List.take_of_length_le (by omega)]
    rfl
  rw [hr]
  rw [hm] at hcap hP f8 ⊢
  have k0 := fun d => WS.start w #[.int .i64 5, .int .i64 st, .bool en, .string da, .int .i64 ki, .int .i64 on, .int .i64 we, .bool ex, .int .i64 co, .int .i64 la, .int .i64 n, .slice ao m cap] d
  have kb := fun d => Blk.new ((((w.alloc (.cells #[.int .i64 5, .int .i64 st, .bool en, .string da, .int .i64 ki, .int .i64 on, .int .i64 we, .bool ex, .int .i64 co, .int .i64 la, .int .i64 n, .slice ao m cap] 26)).alloc (.cells #[] 9)).alloc (.cells #[.slice (some ⟨w.heap.size + 1, 0, none⟩) 0 0] 50)).drewN d) 9 #[.string ⟨#[115, 101, 116, 116, 105, 110, 103, 115]⟩]
  simp only [show ∀ d, ((((w.alloc (.cells #[.int .i64 5, .int .i64 st, .bool en, .string da, .int .i64 ki, .int .i64 on, .int .i64 we, .bool ex, .int .i64 co, .int .i64 la, .int .i64 n, .slice ao m cap] 26)).alloc (.cells #[] 9)).alloc (.cells #[.slice (some ⟨w.heap.size + 1, 0, none⟩) 0 0] 50)).drewN d).heap.size = w.heap.size + 1 + 1 + 1 from fun d => by simp] at kb
  have hws0 : ([] : List ByteArray) ++ [⟨#[115, 101, 116, 116, 105, 110, 103, 115]⟩] = setWs ps 0 := rfl
  have HX := Lib.hid (And.intro d1 (And.intro k0 (And.intro kb (And.intro hP (And.intro f9 hm)))))
  clear d1 k0 kb hr f1 f2 f3 f4 f5 f6 f7 f9 hnone hP hm
  go_enter Tryd.func21, Tryd.ntmps21
  go_wp2_with fail
  refine (HX.out.1 _).mono ?_
  rintro e1 w1 ⟨rfl, m1, rfl⟩
  go_wp2_with fail
  refine (pick_any _ _ _ _).mono ?_
  rintro e2 w2 ⟨rfl, rfl⟩
  have c0 := (HX.out.2.1 m1).bx.cell 0
  go_wp2_with fail
  clear c0
  refine (addw_any w _ _ _ [] [⟨#[115, 101, 116, 116, 105, 110, 103, 115]⟩] ((HX.out.2.1 m1).alloc _) ⟨_, 0, none⟩ 1 1 rfl (row_cells (HX.out.2.2.1 m1)) (by decide) (by decide)).mono ?_
  rintro e6 w6 ⟨v, rfl, ho, hb6, hx6, hv6, -⟩
  rw [hws0] at ho
  obtain ⟨av, cv, rfl⟩ := owns_slice ho
  have k6 := WS.put ho hb6 hx6 hv6
  have c1 := hv6.cell 0
  have z1 := hv6.frozen 0
  have c11 := k6.bx.cell 11
  have K6 := Lib.hid k6
  clear ho hb6 hx6 hv6 k6 hws0
  go_wp2_with fail
  go_loopw [88] (fun i wr => ∃ (k : Nat) (lv : Value), k ≤ m ∧ i = .int .i64 k ∧ WS w wr #[.int .i64 5, .int .i64 st, .bool en, .string da, .int .i64 ki, .int .i64 on, .int .i64 we, .bool ex, .int .i64 co, .int .i64 la, .int .i64 n, .slice ao m cap] lv (setWs ps k)) (fun i _ => m - (intOf i).toNat)
  case atStart => exact ⟨0, _, Nat.zero_le _, rfl, K6.out⟩
  case round =>
    obtain ⟨k, lv, hk, rfl, hws⟩ := hrel
    obtain ⟨la0, lc0, rfl⟩ := owns_slice hws.ow
    have hvl := hws.va.lt
    rcases (show k < m ∨ k = m by omega) with hlt | rfl
    · obtain ⟨p, hp⟩ : ∃ p, ps[k]? = some p := ⟨ps[k]'(by have := HX.out.2.2.2.2.2; omega), List.getElem?_eq_getElem _⟩
      have hPr := HX.out.2.2.2.1.below hws.be
      obtain ⟨b, off, cap2, e1, -, -, hbb, hrd⟩ := hPr.some_of (by omega)
      injection e1 with e1 e3 e4
      subst e1
      subst e4
      have hnx := setWs_next hp
      obtain ⟨g1, g2⟩ := HX.out.2.2.2.2.1 p (List.mem_of_getElem? hp)
      obtain ⟨p1, p2⟩ := p
      simp only at g1 g2 hnx
      have z2 := dgN_size g1
      have z3 := dgN_size g2
      have d2 := fun w => ddgb_any p1 g1 w
      have d3 := fun w => ddgb_any p2 g2 w
      unfold setW at hnx
      simp only at hnx
      obtain ⟨s2, hs2⟩ : ∃ s, dgN p1 = s := ⟨_, rfl⟩
      obtain ⟨s3, hs3⟩ : ∃ s, dgN p2 = s := ⟨_, rfl⟩
      rw [hs2] at d2 z2 hnx
      rw [hs3] at d3 z3 hnx
      have q0 : wr.cell? ⟨b, off + k * 2, none⟩ = some (.int .i64 p1) := hrd _ _ (prs_at hp).1
      have q1 : wr.cell? ⟨b, off + k * 2 + 1, none⟩ = some (.int .i64 p2) := by rw [Nat.add_assoc]; exact hrd _ _ (prs_at hp).2
      have t2 : ¬ 9223372036854775807 < s2.size + 1 := by omega
      have t3 : ¬ 9223372036854775807 < s2.size + 1 + s3.size := by omega
      have k0 : (0 : Int) ≤ (k : Int) := by omega
      have k1 : (k : Int) < (m : Int) := by omega
      have w6 : IntKind.i64.wrap ((k : Int) + 1) = (k : Int) + 1 := IntWalk.i64_in _ (by omega)
      have hwl : (setWs ps k).length ≤ 1000 := by have := setWs_len ps k; omega
      have hbx := fun d => (Blk.new wr 47 #[.int .i64 p1, .int .i64 p2]).drewN d
      have hwx := fun d => (hws.alloc (.cells #[.int .i64 p1, .int .i64 p2] 47)).drewN d
      have HK := Lib.hid (And.intro hnx (And.intro hlt (And.intro hwl (And.intro hbx (And.intro hwx (And.intro d2 d3))))))
      clear hnx hlt hws hwl hbx hwx d2 d3 hrd hPr hp z2 z3 hs2 hs3 g1 g2 e3 hk
      go_wp2_with fail
      refine wp_region_held_drew (S := fun w' => w'.cell? ⟨wr.heap.size, 0, none⟩ = some (.int .i64 p1) ∧ w'.cell? ⟨wr.heap.size, 1, none⟩ = some (.int .i64 p2)) (by kernel_rfl) (⟨(HK.out.2.2.2.1 1).cell 0, (HK.out.2.2.2.1 1).cell 1⟩) (fun hHeld => ?_)
      refine wpAnyH_take (i := 0) (v := ?va0) rfl (by kernel_rfl) (by kernel_rfl) (by kernel_rfl) (fun _ _ _ h => h) (Or.inl ⟨by rfl, ?hya0⟩) hHeld ?resta0
      case hya0 => (intro w' hSw; (try dsimp only at hSw); go_simp; try with_reducible rfl)
      try simp only [Act.put, List.getElem_toArray, List.getElem_cons_zero, List.getElem_cons_succ, List.setIfInBounds_toArray, List.set_cons_zero, List.set_cons_succ]
      refine wpAnyH_take (i := 1) (v := ?va1) rfl (by kernel_rfl) (by kernel_rfl) (by kernel_rfl) (fun _ _ _ h => h) (Or.inl ⟨by rfl, ?hya1⟩) hHeld ?resta1
      case hya1 => (intro w' hSw; (try dsimp only at hSw); go_simp; try with_reducible rfl)
      try simp only [Act.put, List.getElem_toArray, List.getElem_cons_zero, List.getElem_cons_succ, List.setIfInBounds_toArray, List.set_cons_zero, List.set_cons_succ]
      refine wpAnyH_take (i := 2) (v := ?va2) rfl (by kernel_rfl) (by kernel_rfl) (by kernel_rfl) (fun _ _ _ h => h) (Or.inl ⟨by rfl, ?hya2⟩) hHeld ?resta2
      case hya2 => (intro w' hSw; (try dsimp only at hSw); go_simp; try with_reducible rfl)
      try simp only [Act.put, List.getElem_toArray, List.getElem_cons_zero, List.getElem_cons_succ, List.setIfInBounds_toArray, List.set_cons_zero, List.set_cons_succ]
      refine wpAnyH_take (i := 5) (v := ?va5) rfl (by kernel_rfl) (by kernel_rfl) (by kernel_rfl) (fun _ _ _ h => h) (Or.inl ⟨by rfl, ?hya5⟩) hHeld ?resta5
      case hya5 => (intro w' hSw; (try dsimp only at hSw); go_simp; try with_reducible rfl)
      try simp only [Act.put, List.getElem_toArray, List.getElem_cons_zero, List.getElem_cons_succ, List.setIfInBounds_toArray, List.set_cons_zero, List.set_cons_succ]
      refine wpAnyH_take (i := 6) (v := ?va6) rfl (by kernel_rfl) (by kernel_rfl) (by kernel_rfl) (fun _ _ _ h => h) (Or.inl ⟨by rfl, ?hya6⟩) hHeld ?resta6
      case hya6 => (intro w' hSw; (try dsimp only at hSw); go_simp; try with_reducible rfl)
      try simp only [Act.put, List.getElem_toArray, List.getElem_cons_zero, List.getElem_cons_succ, List.setIfInBounds_toArray, List.set_cons_zero, List.set_cons_succ]
      refine wpAnyH_ready (rs := [3]) (by kernel_rfl) (by simp) ?_
      refine AllReadyH.cons rfl (fun K hK => ?_) AllReadyH.nil
      go_simp
      refine (HK.out.2.2.2.2.2.1 _).mono ?_
      rintro e2 w2 ⟨rfl, hm2⟩
      have kA := (HK.out.2.2.2.2.1 1).below hm2
      have xA := (HK.out.2.2.2.1 1).below hm2 (HK.out.2.2.2.1 1).lt
      refine hK.out _ _ (⟨xA.cell 0, xA.cell 1⟩) (fun hHeld => ?_)
      clear hK K
      try simp only [Act.put, List.getElem_toArray, List.getElem_cons_zero, List.getElem_cons_succ, List.setIfInBounds_toArray, List.set_cons_zero, List.set_cons_succ]
      refine wpAnyH_take (i := 4) (v := ?va4) rfl (by kernel_rfl) (by kernel_rfl) (by kernel_rfl) (fun _ _ _ h => h) (Or.inl ⟨by rfl, ?hya4⟩) hHeld ?resta4
      case hya4 => (intro w' hSw; (try dsimp only at hSw); go_simp; try with_reducible rfl)
      try simp only [Act.put, List.getElem_toArray, List.getElem_cons_zero, List.getElem_cons_succ, List.setIfInBounds_toArray, List.set_cons_zero, List.set_cons_succ]
      refine wpAnyH_ready (rs := [7]) (by kernel_rfl) (by simp) ?_
      refine AllReadyH.cons rfl (fun K hK => ?_) AllReadyH.nil
      go_simp
      refine (HK.out.2.2.2.2.2.2 _).mono ?_
      rintro e3 w3 ⟨rfl, hm3⟩
      have kB := kA.below hm3
      have xB := xA.below hm3 xA.lt
      refine hK.out _ _ (⟨xB.cell 0, xB.cell 1⟩) (fun hHeld => ?_)
      clear hK K
      try simp only [Act.put, List.getElem_toArray, List.getElem_cons_zero, List.getElem_cons_succ, List.setIfInBounds_toArray, List.set_cons_zero, List.set_cons_succ]
      refine wpAnyH_take (i := 8) (v := ?va8) rfl (by kernel_rfl) (by kernel_rfl) (by kernel_rfl) (fun _ _ _ h => h) (Or.inl ⟨by rfl, ?hya8⟩) hHeld ?resta8
      case hya8 => (intro w' hSw; (try dsimp only at hSw); go_simp; try with_reducible rfl)
      try simp only [Act.put, List.getElem_toArray, List.getElem_cons_zero, List.getElem_cons_succ, List.setIfInBounds_toArray, List.set_cons_zero, List.set_cons_succ]
      refine wpAnyH_ready (rs := [9]) (by kernel_rfl) (by simp) ?_
      refine AllReadyH.cons rfl (fun K hK => ?_) AllReadyH.nil
      go_simp
      refine hK.out _ _ (⟨(xB.alloc _).cell 0, (xB.alloc _).cell 1⟩) (fun hHeld => ?_)
      clear hK K
      try simp only [Act.put, List.getElem_toArray, List.getElem_cons_zero, List.getElem_cons_succ, List.setIfInBounds_toArray, List.set_cons_zero, List.set_cons_succ]
      refine wpAnyH_ready (rs := [10]) (by kernel_rfl) (by simp) ?_
      refine AllReadyH.cons rfl (fun K hK => ?_) AllReadyH.nil
      go_simp
      refine (addw_any w _ _ _ (setWs ps k) [(s2 ++ ⟨#[58]⟩) ++ s3] (kB.alloc _) ⟨_, 0, none⟩ 1 1 rfl (row_cells (Blk.new _ 9 _)) (by decide) HK.out.2.2.1).mono ?_
      rintro e6 w6 ⟨v, rfl, ho, hb6, hx6, hv6, hk6⟩
      obtain ⟨av, cv, rfl⟩ := owns_slice ho
      have x6 := hk6 _ _ _ (by decide) (xB.alloc _)
      have c6 := hv6.cell 0
      have z6 := hv6.frozen 0
      refine hK.out _ _ (⟨x6.cell 0, x6.cell 1⟩) (fun hHeld => ?_)
      clear hK K
      try simp only [Act.put, List.getElem_toArray, List.getElem_cons_zero, List.getElem_cons_succ, List.setIfInBounds_toArray, List.set_cons_zero, List.set_cons_succ]
      refine wpAnyH_ready (rs := [11]) (by kernel_rfl) (by simp) ?_
      refine AllReadyH.cons rfl (fun K hK => ?_) AllReadyH.nil
      go_simp
      refine hK.out _ _ (⟨(x6.far (by show wr.heap.size ≠ w.heap.size + 1 + 1; omega) _).cell 0, (x6.far (by show wr.heap.size ≠ w.heap.size + 1 + 1; omega) _).cell 1⟩) (fun hHeld => ?_)
      clear hK K
      try simp only [Act.put, List.getElem_toArray, List.getElem_cons_zero, List.getElem_cons_succ, List.setIfInBounds_toArray, List.set_cons_zero, List.set_cons_succ]
      refine wpAnyH_done (by kernel_rfl) ?_ _
      have k7 := WS.put ho hb6 hx6 hv6
      rw [← HK.out.1] at k7
      have hl7 : (setWs ps (k + 1)).length = (setWs ps k).length + 1 := by rw [HK.out.1]; simp
      rw [hl7] at k7
      clear hl7
      have K7 := Lib.hid k7
      clear k7 ho hb6 hx6 hv6 hk6 x6 c6 z6 kA kB xA xB hm2 hm3
      go_wp2_with fail
      refine ⟨⟨k + 1, _, HK.out.2.1, rfl, K7.out⟩, ?_⟩
      have := HK.out.2.1
      show m - ((k : Int) + 1).toNat < m - (k : Int).toNat
      omega
    · have k1 : ¬ ((k : Nat) : Int) < (k : Int) := by omega
      have cv := hws.va.cell 0
      have HC := Lib.hid (And.intro hws.ow hws.be)
      clear hws
      go_wp2_with fail
      go_ret
      exact ⟨_, rfl, HC.out.1, HC.out.2⟩
end

end Go.Proofs.YtebiidfpgdolnaaDoor.Dmp
