import Derived.Test.YtebiidfpgdolnaaModelT
import Derived.Test.YtebiidfpgdolnaaModelD
import Derived.Test.YtebiidfpgdolnaaKitR
import Derived.Deep.CutBlock
namespace Go.Proofs.Ytebiidfpgdolnaa.Model
open Go.ChangeShapes Go.WideShapes Go.ChangeAt Go.RowKit Go.Deep
set_option linter.unusedVariables false
open Go.Lib
set_option linter.unusedSimpArgs false

theorem info9 : (Try.prog.info? 9).map (fun i => (i.zero, i.size, i.bytes)) = some (some (.string ⟨#[]⟩), 1, 16) := by kernel_rfl
theorem und39 : Try.prog.underlying 39 = some (.slice 9) := by kernel_rfl
theorem one_cell {w : World} {g : Nat} {t : TypeId} {a : Value} (h : Blk w g t #[a]) : ∀ j u, [a][j]? = some u → w.cell? ((⟨g, 0, none⟩ : Addr).add j) = some u := by
  intro j u hu
  rw [Addr.add_lit, h.cell]
  match j, hu with
  | 0, hu => simpa using hu

/-- What is left behind keep. -/
def kept (t : St) (x : ByteArray) : St := { t with W := t.W ++ [x], ac := t.ac + 1 }

set_option maxRecDepth 100000 in
set_option maxHeartbeats 25600000 in
theorem keep_any (g lo bf bs : Nat) (t : St) (x : ByteArray) (v : Int) (hn : t.W.length ≤ 1000000) (ha : 0 ≤ t.ac ∧ t.ac ≤ 10000000) (w : World) (h : FlowAt w g lo t) (hlw : lo ≤ w.heap.size)
    (hbf : Blk w bf 25 #[.pointer (some ⟨g, 0, none⟩)]) (hbs : Blk w bs 9 #[.string x]) (hf : bf ≠ g) (hs : bs ≠ g) :
    Calls Try.prog 34 #[.int .i64 v, .pointer (some ⟨bf, 0, none⟩), .pointer (some ⟨bs, 0, none⟩)] w fun f w' => f = .returned (.tuple #[.int .i64 v, .int .i64 0]) ∧ FlowAt w' g lo (kept t x) ∧ w.grownBy w' (some g) := by
  obtain ⟨hlo, vw, vy, vt, hb, hW, hY, hV⟩ := h
  have k0 : w.cell? ⟨bf, 0, none⟩ = some (.pointer (some ⟨g, 0, none⟩)) := hbf.cell 0
  have k1 : w.cell? ⟨bs, 0, none⟩ = some (.string x) := hbs.cell 0
  have hbl := hb.lt
  have hbfl := hbf.lt
  have hbsl := hbs.lt
  obtain ⟨ao, cap, rfl, hcap, hnone, hcell⟩ := hW.cap_of
  have hxsl := strs_length t.W
  obtain ⟨n, hnn⟩ : ∃ n, t.W.length = n := ⟨_, rfl⟩
  have d3 : w.cell? ⟨g, 3, none⟩ = some (.slice ao t.W.length cap) := hb.cell 3
  have hnn2 := hnn
  rw [hnn] at d3 hcap hnone hn hxsl
  have hnc : (n : Int) ≤ (cap : Int) := by omega
  have hn0 : (0 : Int) ≤ (n : Int) := by omega
  have hnb := Blk.new w 9 #[.string x]
  have hal : ∀ o, Below w.heap.size w (w.alloc o) := fun o => (Below.refl _ _).alloc (Nat.le_refl _) o
  have d3' : (w.alloc (.cells #[.string x] 9)).cell? ⟨g, 3, none⟩ = some (.slice ao n cap) := by
    have := (hb.alloc (.cells #[.string x] 9)).cell 3
    rw [← hnn]; exact this
  have k0' : (w.alloc (.cells #[.string x] 9)).cell? ⟨bf, 0, none⟩ = some (.pointer (some ⟨g, 0, none⟩)) := (hbf.alloc _).cell 0
  have k1' : (w.alloc (.cells #[.string x] 9)).cell? ⟨bs, 0, none⟩ = some (.string x) := (hbs.alloc _).cell 0
  have hh3 : ∀ b, ao = some b → ∀ j u, (strs t.W)[j]? = some u → (w.alloc (.cells #[.string x] 9)).cell? (b.add j) = some u := by
    obtain ⟨ao', cap', h1, _, _, h5⟩ := (hW.below (hal (.cells #[.string x] 9))).cap_of
    injection h1 with h1 _ _
    subst h1
    exact h5
  have hn1 : ao = none → n = 0 ∧ n = 0 := fun h => ⟨(hnone h).1, (hnone h).1⟩
  have hfin : ∀ (base : Nat), lo ≤ base → ∀ (v5 : Value) (w5 : World), w5.ownsRow base 9 1 v5 (n + 1) (strs t.W ++ [.string x]) → (w.alloc (.cells #[.string x] 9)).grownBy w5 none → FlowAt (w5.setCell ⟨g, 3, none⟩ v5) g lo { t with W := t.W ++ [x] } ∧ w.grownBy (w5.setCell ⟨g, 3, none⟩ v5) (some g) ∧ Blk (w5.setCell ⟨g, 3, none⟩ v5) bf 25 #[.pointer (some ⟨g, 0, none⟩)] := by
    intro base hbase v5 w5 hown hg5
    have hg5' : w.grownBy w5 (some g) := only_mono ((only_alloc (World.grownBy.refl w none) _).andThen hg5 (by simp)) _
    have hgs : w5.grownBy (w5.setCell ⟨g, 3, none⟩ v5) (some g) := only_setCell (World.grownBy.refl _ _) (.inl rfl) _
    have hga := only_trans hg5' hgs
    have hb5 : Blk w5 g 56 _ := (hb.alloc (.cells #[.string x] 9)).grown hg5 (by simp)
    refine ⟨⟨hlo, v5, vy, vt, hb5.store 3 v5, ?_, hY.grown hga hlo, hV.grown hga hlo⟩, hga, hbf.grown hga (fun e => hf (by injection e))⟩
    have := (RdL.owned hown hbase).grown hgs hlo
    rw [List.length_append, strs_append, hnn]
    exact this
  have HS := Lib.hid (And.intro hnb (And.intro hh3 (And.intro hn1 (And.intro hxsl (And.intro hfin (And.intro hb (And.intro hbf hbs)))))))
  clear hnb hh3 hn1 hxsl hfin hb hbf hbs hW hY hV hcell hnone hal hcap
  have HO := Lib.hid (And.intro (show ∀ u ∈ [Value.string x], u.oneCell' = true by simp [Value.oneCell']) (And.intro (show n < n + 1 by omega) (And.intro (show n + 1 ≤ maxLen by unfold maxLen; omega) (show (n + 1) * 16 ≤ 140737488355328 by omega))))
  obtain ⟨i9, hi9, hz0, hz1, hz2⟩ := info_parts info9
  go_enter Try.func34, Try.ntmps34
  go_upto_region 1 with fail
  go_cut [] (fun wx => FlowAt wx g lo { t with W := t.W ++ [x] } ∧ w.grownBy wx (some g) ∧ Blk wx bf 25 #[.pointer (some ⟨g, 0, none⟩)])
  case first =>
    refine wp_region_putOff (fun w' => w'.cell? ⟨bf, 0, none⟩ = some (.pointer (some ⟨g, 0, none⟩)) ∧ w'.cell? ⟨bs, 0, none⟩ = some (.string x) ∧ w'.cell? ⟨g, 3, none⟩ = some (.slice ao n cap)) (by simp) (by kernel_rfl) (by kernel_rfl) (by first | exact ⟨r0, r1, e5⟩ | exact ⟨k0, k1, d3⟩ | exact ⟨k0', k1', d3'⟩) (fun hHeld => ?_)
    simp only [List.dropLast_cons_cons, List.dropLast_singleton, List.getLast_cons_cons, List.getLast_singleton, List.cons_append, List.nil_append, List.length_cons, List.length_nil, putOff]
    refine wpAnyH_take (i := 0) (v := ?v0) rfl (by kernel_rfl) (by kernel_rfl) (by kernel_rfl) (fun _ _ _ h => h) (Or.inl ⟨by rfl, ?hy0⟩) hHeld ?rest0
    case hy0 => (intro w' hSw; (try dsimp only at hSw); go_simp; try with_reducible rfl)
    try simp only [Act.put, List.setIfInBounds_toArray, List.set_cons_zero, List.set_cons_succ]
    refine wpAnyH_take (i := 1) (v := ?v1) rfl (by kernel_rfl) (by kernel_rfl) (by kernel_rfl) (fun _ _ _ h => h) (Or.inl ⟨by rfl, ?hy1⟩) hHeld ?rest1
    case hy1 => (intro w' hSw; (try dsimp only at hSw); go_simp; try with_reducible rfl)
    try simp only [Act.put, List.setIfInBounds_toArray, List.set_cons_zero, List.set_cons_succ]
    refine wpAnyH_take (i := 2) (v := ?v2) rfl (by kernel_rfl) (by kernel_rfl) (by kernel_rfl) (fun _ _ _ h => h) (Or.inl ⟨by rfl, ?hy2⟩) hHeld ?rest2
    case hy2 => (intro w' hSw; (try dsimp only at hSw); go_simp; try with_reducible rfl)
    try simp only [Act.put, List.setIfInBounds_toArray, List.set_cons_zero, List.set_cons_succ]
    refine wpAnyH_take (i := 3) (v := ?v3) rfl (by kernel_rfl) (by kernel_rfl) (by kernel_rfl) (fun _ _ _ h => h) (Or.inl ⟨by rfl, ?hy3⟩) hHeld ?rest3
    case hy3 => (intro w' hSw; (try dsimp only at hSw); go_simp; try with_reducible rfl)
    try simp only [Act.put, List.setIfInBounds_toArray, List.set_cons_zero, List.set_cons_succ]
    refine wpAnyH_take (i := 4) (v := ?v4) rfl (by kernel_rfl) (by kernel_rfl) (by kernel_rfl) (fun _ _ _ h => h) (Or.inl ⟨by rfl, ?hy4⟩) hHeld ?rest4
    case hy4 => (intro w' hSw; (try dsimp only at hSw); go_simp; try with_reducible rfl)
    try simp only [Act.put, List.setIfInBounds_toArray, List.set_cons_zero, List.set_cons_succ]
    refine wpAnyH_take (i := 5) (v := ?v5) rfl (by kernel_rfl) (by kernel_rfl) (by kernel_rfl) (fun _ _ _ h => h) (Or.inl ⟨by rfl, ?hy5⟩) hHeld ?rest5
    case hy5 => (intro w' hSw; (try dsimp only at hSw); go_simp; try with_reducible rfl)
    try simp only [Act.put, List.setIfInBounds_toArray, List.set_cons_zero, List.set_cons_succ]
    refine wpAnyH_take (i := 6) (v := ?v6) rfl (by kernel_rfl) (by kernel_rfl) (by kernel_rfl) (fun _ _ _ h => h) (Or.inl ⟨by rfl, ?hy6⟩) hHeld ?rest6
    case hy6 => (intro w' hSw; (try dsimp only at hSw); go_simp; try with_reducible rfl)
    try simp only [Act.put, List.setIfInBounds_toArray, List.set_cons_zero, List.set_cons_succ]
    refine wpAnyH_take (i := 7) (v := ?v7) rfl (by kernel_rfl) (by kernel_rfl) (by kernel_rfl) (fun _ _ _ h => h) (Or.inl ⟨by rfl, ?hy7⟩) hHeld ?rest7
    case hy7 => (intro w' hSw; (try dsimp only at hSw); go_simp; try with_reducible rfl)
    try simp only [Act.put, List.setIfInBounds_toArray, List.set_cons_zero, List.set_cons_succ]
    refine wpAnyH_take (i := 8) (v := ?v8) rfl (by kernel_rfl) (by kernel_rfl) (by kernel_rfl) (fun _ _ _ h => h) (Or.inl ⟨by rfl, ?hy8⟩) hHeld ?rest8
    case hy8 => (intro w' hSw; (try dsimp only at hSw); go_simp; try with_reducible rfl)
    try simp only [Act.put, List.setIfInBounds_toArray, List.set_cons_zero, List.set_cons_succ]
    refine wpAnyH_take (i := 9) (v := ?v9) rfl (by kernel_rfl) (by kernel_rfl) (by kernel_rfl) (fun _ _ _ h => h) (Or.inl ⟨by rfl, ?hy9⟩) hHeld ?rest9
    case hy9 => (intro w' hSw; (try dsimp only at hSw); go_simp; try with_reducible rfl)
    try simp only [Act.put, List.setIfInBounds_toArray, List.set_cons_zero, List.set_cons_succ]
    refine wpAnyH_take (i := 10) (v := ?v10) rfl (by kernel_rfl) (by kernel_rfl) (by kernel_rfl) (fun _ _ _ h => h) (Or.inl ⟨by rfl, ?hy10⟩) hHeld ?rest10
    case hy10 => (intro w' hSw; (try dsimp only at hSw); go_simp; try with_reducible rfl)
    try simp only [Act.put, List.setIfInBounds_toArray, List.set_cons_zero, List.set_cons_succ]
    refine wpAnyH_take (i := 11) (v := ?v11) rfl (by kernel_rfl) (by kernel_rfl) (by kernel_rfl) (fun _ _ _ h => h) (Or.inl ⟨by rfl, ?hy11⟩) hHeld ?rest11
    case hy11 => (intro w' hSw; (try dsimp only at hSw); go_simp; try with_reducible rfl)
    try simp only [Act.put, List.setIfInBounds_toArray, List.set_cons_zero, List.set_cons_succ]
    refine wpAnyH_take (i := 12) (v := ?v12) rfl (by kernel_rfl) (by kernel_rfl) (by kernel_rfl) (fun _ _ _ h => h) (Or.inl ⟨by rfl, ?hy12⟩) hHeld ?rest12
    case hy12 => (intro w' hSw; (try dsimp only at hSw); go_simp; try with_reducible rfl)
    try simp only [Act.put, List.setIfInBounds_toArray, List.set_cons_zero, List.set_cons_succ]
    refine wpAnyH_take (i := 13) (v := ?v13) rfl (by kernel_rfl) (by kernel_rfl) (by kernel_rfl) (fun _ _ _ h => h) (Or.inl ⟨by rfl, ?hy13⟩) hHeld ?rest13
    case hy13 => (intro w' hSw; (try dsimp only at hSw); go_simp; try with_reducible rfl)
    try simp only [Act.put, List.setIfInBounds_toArray, List.set_cons_zero, List.set_cons_succ]
    refine wpAnyH_take (i := 14) (v := ?v14) rfl (by kernel_rfl) (by kernel_rfl) (by kernel_rfl) (fun _ _ _ h => h) (Or.inl ⟨by rfl, ?hy14⟩) hHeld ?rest14
    case hy14 => (intro w' hSw; (try dsimp only at hSw); go_simp; try with_reducible rfl)
    try simp only [Act.put, List.setIfInBounds_toArray, List.set_cons_zero, List.set_cons_succ]
    refine wpAnyH_take (i := 15) (v := ?v15) rfl (by kernel_rfl) (by kernel_rfl) (by kernel_rfl) (fun _ _ _ h => h) (Or.inl ⟨by rfl, ?hy15⟩) hHeld ?rest15
    case hy15 => (intro w' hSw; (try dsimp only at hSw); go_simp; try with_reducible rfl)
    try simp only [Act.put, List.setIfInBounds_toArray, List.set_cons_zero, List.set_cons_succ]
    refine wpAnyH_take (i := 16) (v := ?v16) rfl (by kernel_rfl) (by kernel_rfl) (by kernel_rfl) (fun _ _ _ h => h) (Or.inl ⟨by rfl, ?hy16⟩) hHeld ?rest16
    case hy16 => (intro w' hSw; (try dsimp only at hSw); go_simp; try with_reducible rfl)
    try simp only [Act.put, List.setIfInBounds_toArray, List.set_cons_zero, List.set_cons_succ]
    refine wpAnyH_ready (rs := [17]) (by kernel_rfl) (by simp) ?_
    refine AllReadyH.cons rfl (fun K hK => ?_) AllReadyH.nil
    go_simp
    refine hK.out _ _ (by first | exact ⟨r0, r1, e5⟩ | exact ⟨k0, k1, d3⟩ | exact ⟨k0', k1', d3'⟩) (fun hHeld => ?_)
    clear hK K
    refine wpAnyH_ready (rs := [18]) (by kernel_rfl) (by simp) ?_
    refine AllReadyH.cons rfl (fun K hK => ?_) AllReadyH.nil
    refine step_append_grows rfl (.tmp 21) (.tmp 23) 39 rfl 9 i9 _ 1 16 und39 hi9 hz0 hz1 hz2 rfl (by decide) ao n n (strs t.W) rfl (by exact HS.out.2.2.1) (by exact HS.out.2.2.2.1) (by exact HS.out.2.1) ⟨w.heap.size, 0, none⟩ 1 1 [.string x] rfl rfl (by exact one_cell HS.out.1) HO.out.1 HO.out.2.1 HO.out.2.2.1 HO.out.2.2.2 ?_
    intro v5 w5 hown5 hg5
    obtain ⟨a5, k5, rfl⟩ := own_slice hown5
    have hb5 := Blk.grown (by exact HS.out.2.2.2.2.2.1.alloc (.cells #[.string x] 9)) (by first | exact hg5 | exact undrew hg5 | exact undrewN hg5) (by simp)
    have hbf5 := Blk.grown (by exact HS.out.2.2.2.2.2.2.1.alloc (.cells #[.string x] 9)) (by first | exact hg5 | exact undrew hg5 | exact undrewN hg5) (by simp)
    have hbs5 := Blk.grown (by exact HS.out.2.2.2.2.2.2.2.alloc (.cells #[.string x] 9)) (by first | exact hg5 | exact undrew hg5 | exact undrewN hg5) (by simp)
    have r0 : w5.cell? ⟨bf, 0, none⟩ = some (.pointer (some ⟨g, 0, none⟩)) := hbf5.cell 0
    have r1 : w5.cell? ⟨bs, 0, none⟩ = some (.string x) := hbs5.cell 0
    have e5 : w5.cell? ⟨g, 3, none⟩ = some (.slice ao n cap) := by rw [← hnn2]; exact hb5.cell 3
    have e6 := hb5.frozen 3
    have HR := Lib.hid (HS.out.2.2.2.2.1 _ (by first | exact hlw | (simp; omega)) _ w5 hown5 (by first | exact hg5 | exact undrew hg5 | exact undrewN hg5))
    clear hown5 hg5 hb5 hbf5 hbs5
    refine hK.out _ _ (by first | exact ⟨r0, r1, e5⟩ | exact ⟨k0, k1, d3⟩ | exact ⟨k0', k1', d3'⟩) (fun hHeld => ?_)
    clear hK K
    refine wpAnyH_take (i := 19) (v := ?v19) rfl (by kernel_rfl) (by kernel_rfl) (by kernel_rfl) (fun _ _ _ h => h) (Or.inl ⟨by rfl, ?hy19⟩) hHeld ?rest19
    case hy19 => (intro w' hSw; (try dsimp only at hSw); go_simp; try with_reducible rfl)
    try simp only [Act.put, List.setIfInBounds_toArray, List.set_cons_zero, List.set_cons_succ]
    refine wpAnyH_take (i := 20) (v := ?v20) rfl (by kernel_rfl) (by kernel_rfl) (by kernel_rfl) (fun _ _ _ h => h) (Or.inl ⟨by rfl, ?hy20⟩) hHeld ?rest20
    case hy20 => (intro w' hSw; (try dsimp only at hSw); go_simp; try with_reducible rfl)
    try simp only [Act.put, List.setIfInBounds_toArray, List.set_cons_zero, List.set_cons_succ]
    refine wpAnyH_take (i := 21) (v := ?v21) rfl (by kernel_rfl) (by kernel_rfl) (by kernel_rfl) (fun _ _ _ h => h) (Or.inl ⟨by rfl, ?hy21⟩) hHeld ?rest21
    case hy21 => (intro w' hSw; (try dsimp only at hSw); go_simp; try with_reducible rfl)
    try simp only [Act.put, List.setIfInBounds_toArray, List.set_cons_zero, List.set_cons_succ]
    refine wpAnyH_done (by kernel_rfl) ?_ _
    simp only [thenLast]
    go_simp
    go_wp2_with fail
    go_meet
    case rel => exact HR.out
  case rest =>
    obtain ⟨⟨_, vw', vy', vt', h1, h2, h3, h4⟩, h5, h6⟩ := hcut
    have d0 : wc.cell? ⟨bf, 0, none⟩ = some (.pointer (some ⟨g, 0, none⟩)) := h6.cell 0
    have d11 : wc.cell? ⟨g, 11, none⟩ = some (.int .i64 t.ac) := h1.cell 11
    have f11 := h1.frozen 11
    have hwr : IntKind.i64.wrap (t.ac + 1) = t.ac + 1 := IntWalk.i64_in _ (by omega)
    have hgs : wc.grownBy (wc.setCell ⟨g, 11, none⟩ (.int .i64 (t.ac + 1))) (some g) := only_setCell (World.grownBy.refl _ _) (.inl rfl) _
    have hff : FlowAt (wc.setCell ⟨g, 11, none⟩ (.int .i64 (t.ac + 1))) g lo (kept t x) := ⟨hlo, vw', vy', vt', h1.store 11 _, h2.grown hgs hlo, h3.grown hgs hlo, h4.grown hgs hlo⟩
    have HF := Lib.hid (And.intro hff (only_trans h5 hgs))
    clear h1 h2 h3 h4 h5 h6 hgs hff HS HO
    go_wp2_with fail
    go_ret2
    exact ⟨rfl, HF.out⟩

end Go.Proofs.Ytebiidfpgdolnaa.Model
