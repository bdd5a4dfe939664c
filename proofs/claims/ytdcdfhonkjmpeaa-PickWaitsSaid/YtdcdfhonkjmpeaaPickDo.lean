import Derived.Test.YtdcdfhonkjmpeaaPickAw
import Derived.Test.YtdcdfhonkjmpeaaPickRN
import Derived.Deep.CutBlock
namespace Go.Proofs.Ytdcdfhonkjmpeaa.Pick
open Go.ChangeShapes Go.WideShapes Go.ChangeAt Go.RowKit Go.Deep
set_option linter.unusedVariables false

theorem MapIs.le {w : World} {b n c : Nat} {f : Int → Int} (h : MapIs w b n f c) : c ≤ n := by
  obtain ⟨D, ⟨es, clock, hb, F, hs, rfl⟩, _, _, hc⟩ := h
  have e : Go.Maps.size (DataW.map ((es.toList.map (WideElems.rg Try.prog 3 (plainElem (H := Unit) Try.prog 3))).foldr DataW.insert [])) = es.size := by
    simp [Go.Maps.size, (Go.WideShapes.sorted_perm _).length_eq]
  omega

theorem wf_of {i : Int} (h : (Lit.int .i64 i).wf = true) : Wf i := h

/-- The turns behind an argument. -/
theorem turns_of {W : World} {v : Value} (h : IsSlice W [IsInt .i64, IsInt .i64, IsBool] v) : ∃ T : List Turn, Turns W v T ∧ ∀ t ∈ T, Wf t.1 := by
  obtain ⟨a, n, c, rfl, hn, hc, he⟩ := h
  obtain ⟨T, hT, hp⟩ := list_of n (fun i (t : Turn) => Wf t.1 ∧ ∀ b off, a = some ⟨b, off, none⟩ → W.cell? ⟨b, off + i * 3, none⟩ = some (.int .i64 t.1) ∧ W.cell? ⟨b, off + i * 3 + 1, none⟩ = some (.int .i64 t.2.1) ∧ W.cell? ⟨b, off + i * 3 + 2, none⟩ = some (.bool t.2.2)) (by
    intro i hi
    obtain ⟨b, off, rfl, hb, hcell⟩ := he (by omega)
    obtain ⟨v0, c0, x0, rfl, w0⟩ := hcell i hi 0 _ rfl
    obtain ⟨v1, c1, x1, rfl, w1⟩ := hcell i hi 1 _ rfl
    obtain ⟨v2, c2, x2, rfl⟩ := hcell i hi 2 _ rfl
    refine ⟨(x0, x1, x2), w0, fun b' off' e => ?_⟩
    injection e with e
    injection e with e1 e2 _
    subst e1; subst e2
    exact ⟨c0, c1, c2⟩)
  subst hT
  refine ⟨T, ⟨a, c, rfl, hn, fun h0 => ?_⟩, fun t ht => ?_⟩
  · obtain ⟨b, off, rfl, hb, _⟩ := he h0
    exact ⟨b, off, rfl, hb, fun i t ht => (hp i t ht).2 b off rfl⟩
  · obtain ⟨i, hi, e⟩ := List.getElem_of_mem ht
    exact (hp i t (by rw [List.getElem?_eq_getElem hi, e])).1

theorem quiet_reader {P : Program} {f : FuncId} {args : Array Value} {w : World} {n : Nat} {v : Value}
    (h : Calls P f args (w.drewN n) fun e w' => e = .returned v ∧ w.drewN n = w') : Calls P f args (w.drewN n) fun e w'' => e = .returned v ∧ ∃ m, w'' = w.drewN m :=
  h.mono fun _ _ ⟨he, hm⟩ => ⟨he, n, hm.symm⟩

/-- What a round starts from. -/
def RelD (B : Nat) (w : World) (k : Nat) (wr : World) : Prop :=
  ∃ (f : Int → Int) (c n : Nat) (L : List (Int × Int)), n ≤ 31 * k ∧ Bnd f ∧ Blk wr (B + 1) 97 #[.map (some B)] ∧ MapIs wr B n f c ∧ RefAt wr (B + 2) L ∧ RefIs L f c ∧ Below B w wr ∧ B + 3 ≤ wr.heap.size

set_option maxRecDepth 100000 in
set_option maxHeartbeats 6400000 in
theorem walk (w : World) (A : Option Addr) (n c : Nat) (hn : n ≤ c) (hc : c ≤ maxLen) (he : Elems w A n [IsInt .i64, IsInt .i64, IsInt .i64, IsSlice w [IsInt .i64, IsInt .i64, IsBool]]) :
    Calls Try.prog 11 #[.slice A n c] w fun e w' => e = .returned (.bool true) ∧ Below w.heap.size w w' := by
  clear hc
  have HE := Lib.hid he
  clear he
  obtain ⟨B, hB⟩ : ∃ B, w.heap.size = B := ⟨_, rfl⟩
  have hb0 : Below B w w := Below.refl _ _
  have hs0 : B ≤ w.heap.size := by omega
  have HG := Lib.hid hB
  clear hB
  go_enter Try.func11, Try.ntmps11
  go_wp2_with fail
  refine (new_any _).mono ?_
  rintro e w1 ⟨rfl, hk1, hm1, hb1, hz1⟩
  rw [HG.out] at hk1 hm1 hb1 hz1 ⊢
  have hxn := Blk.new w1 80 #[.slice none 0 0]
  rw [hz1] at hxn
  have hA := fun o => And.intro (hk1.alloc o) (And.intro (hm1.alloc o) (And.intro (hb1.alloc (by omega) o) (show B + 3 ≤ (w1.alloc o).heap.size by simp; omega)))
  have HA := Lib.hid (And.intro hA hxn)
  clear hA hxn hk1 hm1 hb1
  go_wp2_with fail
  refine (awake_any _).mono ?_
  rintro e w3 ⟨rfl, hm3⟩
  have hx3 : RefAt w3 (B + 2) [] := RefAt.below ⟨_, HA.out.2, none, 0, rfl, Nat.le_refl _, fun h => by simp at h⟩ hm3
  have hk3 := (HA.out.1 _).1.below hm3 (HA.out.1 _).1.lt
  have hp3 := (HA.out.1 _).2.1.below hm3
  have hb3 := (HA.out.1 _).2.2.1.trans (hm3.mono (by have := (HA.out.1 (.cells #[.slice none 0 0] 80)).2.2.2; omega))
  have hs3 : B + 3 ≤ w3.heap.size := Nat.le_trans (HA.out.1 _).2.2.2 hm3.size
  have H3 := Lib.hid (show RelD B w 0 w3 from ⟨fun _ => 0, 0, 0, [], by omega, fun i => by simp, hk3, hp3, hx3, RefIs.nil, hb3, hs3⟩)
  clear HA hx3 hk3 hp3 hb3 hs3 hm3
  go_wp2_with fail
  go_loopw [5] (fun i wr => ∃ k : Nat, k ≤ n ∧ k ≤ 60 ∧ i = .int .i64 k ∧ RelD B w k wr) (fun i _ => n - (intOf i).toNat)
  case atStart => exact ⟨0, Nat.zero_le _, Nat.zero_le _, rfl, H3.out⟩
  case round =>
    clear hb0 H3 hs0 hz1
    obtain ⟨k, hk, hk60, rfl, f, cc, nn, L, hnn, hf, hblk, hm, hx, hri, hbel, hsr⟩ := hrel
    have hin : k < n ∧ k < 60 ∨ ¬ (k < n ∧ k < 60) := by omega
    rcases hin with ⟨hlt, h60⟩ | hout
    · obtain ⟨b, off, rfl, hbw, hcell⟩ := HE.out (by omega)
      obtain ⟨v0, c0, ki, rfl, wk⟩ := hcell k hlt 0 _ rfl
      obtain ⟨v1, c1, id, rfl, wi⟩ := hcell k hlt 1 _ rfl
      obtain ⟨v2, c2, am, rfl, wa⟩ := hcell k hlt 2 _ rfl
      obtain ⟨v3, c3, hv3⟩ := hcell k hlt 3 _ rfl
      obtain ⟨T, hT, hTw⟩ := turns_of hv3
      have hTr := hT.below (HG.out ▸ hbel)
      have hT0 := hT
      obtain ⟨ta, tc, rfl, htc, _⟩ := hT
      obtain ⟨M, hM⟩ : ∃ M, T.length = M := ⟨_, rfl⟩
      rw [hM] at c3 htc
      clear hcell hv3 wk
      rw [← hbel.cell (p := ⟨b, _, none⟩) (by rw [← HG.out]; exact hbw)] at c0 c1 c2 c3
      have d0 : wr.cell? ⟨b, off + k * 4, none⟩ = some (.int .i64 ki) := c0
      have d1 : wr.cell? ⟨b, off + k * 4 + 1, none⟩ = some (.int .i64 id) := c1
      have d2 : wr.cell? ⟨b, off + k * 4 + 2, none⟩ = some (.int .i64 am) := c2
      have d3 : wr.cell? ⟨b, off + k * 4 + 3, none⟩ = some (.slice ta M tc) := c3
      clear c0 c1 c2 c3 hbw
      have HS := Lib.hid (And.intro hf (And.intro hri (And.intro hTw hM)))
      have hcn := hm.le
      have hLc : L.length = cc := hri.2.2.2.symm
      have hA : ∀ o, Blk (wr.alloc o) (B + 1) 97 #[.map (some B)] ∧ MapIs (wr.alloc o) B nn f cc ∧ RefAt (wr.alloc o) (B + 2) L ∧ Below B w (wr.alloc o) ∧ Turns (wr.alloc o) (.slice ta T.length tc) T := fun o =>
        have hb := (Below.refl wr.heap.size wr).alloc (Nat.le_refl _) o
        ⟨hblk.alloc o, hm.alloc o, hx.below hb, hbel.alloc (by omega) o, hTr.below hb⟩
      have HA := Lib.hid hA
      have HT := Lib.hid hT0
      clear hT0
      clear hA hblk hm hx hbel hTr hf hri hTw hM
      go_upto_block 2 with fail
      go_cut [] (fun wx => ∃ (f4 : Int → Int) (c4 n4 : Nat) (L4 : List (Int × Int)), n4 ≤ 31 * k + 31 ∧ (Blk wx (B + 1) 97 #[.map (some B)] ∧ MapIs wx B n4 f4 c4 ∧ RefAt wx (B + 2) L4 ∧ Below B w wx ∧ Turns wx (.slice ta T.length tc) T ∧ RefIs L4 f4 c4 ∧ Bnd f4) ∧ wx.cell? ⟨wr.heap.size, 1, none⟩ = some (.int .i64 id) ∧ wx.cell? ⟨wr.heap.size, 3, none⟩ = some (.slice ta M tc) ∧ B + 3 ≤ wx.heap.size ∧ wr.heap.size < wx.heap.size)
      case rest =>
        obtain ⟨f4, c4, n4, L4, hnn4, h4, a1, a3, hs4, hga4⟩ := hcut
        have H4 := Lib.hid h4
        clear h4 HA
        have hLl : L4.length = c4 := H4.out.2.2.2.2.2.1.2.2.2.symm
        have hcn4 : c4 ≤ n4 := H4.out.2.1.le
        obtain ⟨xv, hxb, xa, xc, rfl, hxc, _⟩ := H4.out.2.2.1
        have x0 : wc.cell? ⟨B + 2, 0, none⟩ = some (.slice xa L4.length xc) := hxb.cell 0
        rw [hLl] at x0
        obtain ⟨y, hy⟩ : ∃ y, f4 id = y := ⟨_, rfl⟩
        have hleft : ∀ d, Calls Try.prog 36 #[.pointer (some ⟨B + 1, 0, none⟩), .int .i64 id] (wc.drewN d) fun e w' => e = .returned (.int .i64 y) ∧ wc.drewN d = w' := by
          intro d
          have := left_any (B + 1) B n4 c4 f4 id wi (wc.drewN d) (H4.out.1.drewN d) (H4.out.2.1.drewN d)
          rw [hy] at this
          exact this
        have hof : ∀ d, Calls Try.prog 40 #[.pointer (some ⟨B + 2, 0, none⟩), .int .i64 id] (wc.drewN d) fun e w' => e = .returned (.int .i64 y) ∧ wc.drewN d = w' := by
          intro d
          have := of_any (B + 2) L4 id (wc.drewN d) (by omega) (H4.out.2.2.1.below (below_drewN (Below.refl _ _) d))
          rw [H4.out.2.2.2.2.2.1.2.1 id, hy] at this
          exact this
        have hlen : ∀ d, Calls Try.prog 43 #[.pointer (some ⟨B + 1, 0, none⟩)] (wc.drewN d) fun e w' => e = .returned (.int .i64 (c4 : Int)) ∧ Below wc.heap.size wc w' := fun d =>
          (len_any (B + 1) B n4 c4 f4 (wc.drewN d) (by omega) (H4.out.1.drewN d) (H4.out.2.1.drewN d)).mono fun e w' h => ⟨h.1, (below_drewN (Below.refl _ _) d).trans h.2⟩
        have HC := Lib.hid (And.intro hleft (And.intro hof hlen))
        clear hleft hof hlen hxb hy
        go_wp2_with fail
        go_region_held3 (fun w' => w'.cell? ⟨wr.heap.size, 1, none⟩ = some (.int .i64 id) ∧ w'.cell? ⟨B + 2, 0, none⟩ = some (.slice xa c4 xc)) (first | exact ⟨r1, r2⟩ | exact ⟨a1, x0⟩ | go_keep)
          (first
            | (go_at_call 36; go_must (first | refine (HC.out.1 0).mono ?_ | refine (HC.out.1 1).mono ?_); rintro e w' ⟨rfl, rfl⟩)
            | (go_at_call 40; go_must (first | refine (HC.out.2.1 0).mono ?_ | refine (HC.out.2.1 1).mono ?_); rintro e w' ⟨rfl, rfl⟩)
            | (go_at_call 43; go_must (first | refine (HC.out.2.2 0).mono ?_ | refine (HC.out.2.2 1).mono ?_); rintro e w5 ⟨rfl, hb5⟩
               have r1 : w5.cell? ⟨wr.heap.size, 1, none⟩ = some (.int .i64 id) := by rw [hb5.cell (by exact hga4)]; exact a1
               have r2 : w5.cell? ⟨B + 2, 0, none⟩ = some (.slice xa c4 xc) := by rw [hb5.cell (by show B + 2 < _; omega)]; exact x0
               have HB5 := Lib.hid hb5
               clear hb5))
        all_goals
          clear r1 r2 x0 a1
          have hb5 := HB5.out
          go_wp2_with fail
          go_loopw [13] (fun v wx => ∃ j : Nat, j ≤ M ∧ j ≤ 30 ∧ v = .int .i64 j ∧ Below wc.heap.size wc wx) (fun v _ => 30 - (intOf v).toNat)
          case atStart => exact ⟨0, Nat.zero_le _, Nat.zero_le _, rfl, HB5.out⟩
          case round =>
            obtain ⟨j, hj, hj30, rfl, hbx⟩ := hrel
            have a3x := (hbx.cell (by exact hga4)).trans a3
            have hsx := hbx.size
            rcases (show (j < M ∧ j < 30) ∨ ¬ (j < M ∧ j < 30) by omega) with ⟨hjM, hj3⟩ | hjo
            · have hMT := HS.out.2.2.2
              obtain ⟨t, ht⟩ : ∃ t, T[j]? = some t := ⟨T[j]'(by omega), List.getElem?_eq_getElem _⟩
              have hti := HS.out.2.2.1 t (List.mem_of_getElem? ht)
              obtain ⟨aa, cq, e1, _, h3⟩ := H4.out.2.2.2.2.1.below hbx
              obtain ⟨bq, oq, e2, hbq, h4⟩ := h3 (by omega)
              injection e1 with e1 e5 e6
              clear e5 e6
              rw [e2] at e1
              subst e1
              obtain ⟨q0, q1, q2⟩ := h4 j t ht
              clear h3 h4 e2 hMT ht q1 q2
              obtain ⟨ti, tw, tr⟩ := t
              simp only at q0 hti
              obtain ⟨z, hz⟩ : ∃ z, f4 ti = z := ⟨_, rfl⟩
              have hleft : ∀ d, Calls Try.prog 36 #[.pointer (some ⟨B + 1, 0, none⟩), .int .i64 ti] (wr.drewN d) fun e w' => e = .returned (.int .i64 z) ∧ wr.drewN d = w' := by
                intro d
                have := left_any (B + 1) B n4 c4 f4 ti hti (wr.drewN d) ((H4.out.1.below hbx H4.out.1.lt).drewN d) ((H4.out.2.1.below hbx).drewN d)
                rw [hz] at this
                exact this
              have hof : ∀ d, Calls Try.prog 40 #[.pointer (some ⟨B + 2, 0, none⟩), .int .i64 ti] (wr.drewN d) fun e w' => e = .returned (.int .i64 z) ∧ wr.drewN d = w' := by
                intro d
                have := of_any (B + 2) L4 ti (wr.drewN d) (by omega) ((H4.out.2.2.1.below hbx).below (below_drewN (Below.refl _ _) d))
                rw [H4.out.2.2.2.2.2.1.2.1 ti, hz] at this
                exact this
              have HQ := Lib.hid (And.intro hleft (And.intro hof hbx))
              clear hleft hof hbx hz hti
              go_wp2_with fail
              go_quiet ((first | (go_at_call 36; exact quiet_reader (HQ.out.1 _)) | (go_at_call 40; exact quiet_reader (HQ.out.2.1 _))))
              go_wp2_with fail
              go_roundw
              case rel => exact ⟨j + 1, by omega, by omega, by go_num, below_drewN HQ.out.2.2 _⟩
              case measure => simp [intOf]; omega
            · have hrel2 : RelD B w (k + 1) wr := ⟨f4, c4, n4, L4, by omega, H4.out.2.2.2.2.2.2, H4.out.1.below hbx H4.out.1.lt, H4.out.2.1.below hbx, H4.out.2.2.1.below hbx, H4.out.2.2.2.2.2.1, H4.out.2.2.2.1.trans (hbx.mono (by omega)), by omega⟩
              have HRL := Lib.hid hrel2
              clear hrel2 hbx
              by_cases hjM : j < M
              · have hj3 : ¬ j < 30 := by omega
                go_wp2_with fail
                go_roundw
                case rel => exact ⟨k + 1, by omega, by omega, by go_num, HRL.out⟩
                case measure => simp [intOf]; omega
              · go_wp2_with fail
                go_roundw
                case rel => exact ⟨k + 1, by omega, by omega, by go_num, HRL.out⟩
                case measure => simp [intOf]; omega
      case first =>
        rcases (show ki = 4 ∨ ki = 5 ∨ ki = 6 ∨ (ki ≠ 4 ∧ ki ≠ 5 ∧ ki ≠ 6) by omega) with rfl | rfl | rfl | ⟨n4, n5, n6⟩
        · skip
          have HA4 := HA.out (.cells #[.int .i64 4, .int .i64 id, .int .i64 am, .slice ta M tc] 73)
          have ha4 := Blk.new wr 73 #[.int .i64 4, .int .i64 id, .int .i64 am, .slice ta M tc]
          have hsA : (wr.alloc (.cells #[.int .i64 4, .int .i64 id, .int .i64 am, .slice ta M tc] 73)).heap.size = wr.heap.size + 1 := by simp
          by_cases hbad : am < 1 ∨ 1024 < am
          · have hbd := Lib.hid hbad
            rcases (show am < 1 ∨ (¬ am < 1 ∧ 1024 < am) by omega) with h1 | ⟨h1, h2⟩
            · clear hbad
              go_wp2_with fail
              refine (charge_bad (B + 1) id am hbd.out _).mono ?_
              rintro e w4 ⟨rfl, hw4⟩
              have a1 : w4.cell? ⟨wr.heap.size, 1, none⟩ = some (.int .i64 id) := by rw [← hw4]; exact ha4.cell 1
              have a2 : w4.cell? ⟨wr.heap.size, 2, none⟩ = some (.int .i64 am) := by rw [← hw4]; exact ha4.cell 2
              have a3 : w4.cell? ⟨wr.heap.size, 3, none⟩ = some (.slice ta M tc) := by rw [← hw4]; exact ha4.cell 3
              have hs4 : B + 3 ≤ w4.heap.size := by rw [← hw4]; simp; omega
              have hga4 : wr.heap.size < w4.heap.size := by rw [← hw4]; simp
              rw [hw4] at HA4
              have H4 := Lib.hid (And.intro HA4.1 (And.intro HA4.2.1 (And.intro HA4.2.2.1 (And.intro HA4.2.2.2.1 (And.intro HA4.2.2.2.2 (And.intro HS.out.2.1 HS.out.1))))))
              obtain ⟨f4, hf4⟩ : ∃ f4, f = f4 := ⟨_, rfl⟩
              obtain ⟨c4, hc4⟩ : ∃ c4, cc = c4 := ⟨_, rfl⟩
              obtain ⟨n4, hn4⟩ : ∃ n4, nn = n4 := ⟨_, rfl⟩
              obtain ⟨L4, hL4⟩ : ∃ L4, L = L4 := ⟨_, rfl⟩
              rw [hf4, hc4, hn4, hL4] at H4
              have hnn4 : n4 ≤ 31 * k + 31 := by omega
              clear HA4 ha4 hsA hw4 hf4 hc4 hn4 hL4 d0 d1 d2 d3
              go_wp2_with fail
              go_meet
              case rel => exact ⟨f4, c4, n4, L4, hnn4, H4.out, a1, a3, hs4, hga4⟩
            · clear hbad
              go_wp2_with fail
              refine (charge_bad (B + 1) id am hbd.out _).mono ?_
              rintro e w4 ⟨rfl, hw4⟩
              have a1 : w4.cell? ⟨wr.heap.size, 1, none⟩ = some (.int .i64 id) := by rw [← hw4]; exact ha4.cell 1
              have a2 : w4.cell? ⟨wr.heap.size, 2, none⟩ = some (.int .i64 am) := by rw [← hw4]; exact ha4.cell 2
              have a3 : w4.cell? ⟨wr.heap.size, 3, none⟩ = some (.slice ta M tc) := by rw [← hw4]; exact ha4.cell 3
              have hs4 : B + 3 ≤ w4.heap.size := by rw [← hw4]; simp; omega
              have hga4 : wr.heap.size < w4.heap.size := by rw [← hw4]; simp
              rw [hw4] at HA4
              have H4 := Lib.hid (And.intro HA4.1 (And.intro HA4.2.1 (And.intro HA4.2.2.1 (And.intro HA4.2.2.2.1 (And.intro HA4.2.2.2.2 (And.intro HS.out.2.1 HS.out.1))))))
              obtain ⟨f4, hf4⟩ : ∃ f4, f = f4 := ⟨_, rfl⟩
              obtain ⟨c4, hc4⟩ : ∃ c4, cc = c4 := ⟨_, rfl⟩
              obtain ⟨n4, hn4⟩ : ∃ n4, nn = n4 := ⟨_, rfl⟩
              obtain ⟨L4, hL4⟩ : ∃ L4, L = L4 := ⟨_, rfl⟩
              rw [hf4, hc4, hn4, hL4] at H4
              have hnn4 : n4 ≤ 31 * k + 31 := by omega
              clear HA4 ha4 hsA hw4 hf4 hc4 hn4 hL4 d0 d1 d2 d3
              go_wp2_with fail
              go_meet
              case rel => exact ⟨f4, c4, n4, L4, hnn4, H4.out, a1, a3, hs4, hga4⟩
          · skip
            have n1 : ¬ am < 1 := by omega
            have n2 : ¬ 1024 < am := by omega
            have hc5 := charge_ok (B + 1) B nn cc f id am wi (by omega) (by omega) HS.out.1 (by unfold maxLen; omega) (fun h0 => MapIs.pos HA4.2.1 wi h0) _ HA4.1 HA4.2.1
            have HC5 := Lib.hid hc5
            clear hc5
            clear hbad
            go_wp2_with fail
            refine HC5.out.mono ?_
            rintro e w5 ⟨rfl, hm5, hg5⟩
            have hk5 := HA4.1.grown hg5 (by intro e; injection e with e; omega)
            have hx5 := HA4.2.2.1.grown HA4.2.1 hg5
            have hb5 := below_only HA4.2.2.2.1 hg5 (Nat.le_refl _) (by rw [hsA]; omega)
            have ha5 := ha4.grown hg5 (by intro e; injection e with e; omega)
            have hz5 := hg5.size
            rw [hsA] at hz5
            have a0 : w5.cell? ⟨wr.heap.size, 0, none⟩ = some (.int .i64 4) := ha5.cell 0
            have a1 : w5.cell? ⟨wr.heap.size, 1, none⟩ = some (.int .i64 id) := ha5.cell 1
            have a2 : w5.cell? ⟨wr.heap.size, 2, none⟩ = some (.int .i64 am) := ha5.cell 2
            have a3 : w5.cell? ⟨wr.heap.size, 3, none⟩ = some (.slice ta M tc) := ha5.cell 3
            obtain ⟨y, hy⟩ : ∃ y, f id = y := ⟨_, rfl⟩
            have hyb := HS.out.1 id
            rw [hy] at hyb hm5
            have hset := HS.out.2.1.set id (y - am) wi
            have hw1 : IntKind.i64.wrap (y - am) = y - am := IntWalk.i64_in _ (by omega)
            have hof : ∀ d, Calls Try.prog 40 #[.pointer (some ⟨B + 2, 0, none⟩), .int .i64 id] (w5.drewN d) fun e w' => e = .returned (.int .i64 y) ∧ w5.drewN d = w' := by
              intro d
              have := of_any (B + 2) L id (w5.drewN d) (by omega) (hx5.below (below_drewN (Below.refl _ _) d))
              rw [HS.out.2.1.2.1 id, hy] at this
              exact this
            have hst : ∀ d, Calls Try.prog 39 #[.pointer (some ⟨B + 2, 0, none⟩), .int .i64 id, .int .i64 (y - am)] (w5.drewN d) fun e w' => e = .returned (.tuple #[]) ∧ RefAt w' (B + 2) (setL L id (y - am)) ∧ w5.grownBy w' (some (B + 2)) := fun d =>
              (refset_any (B + 2) L id (y - am) (w5.drewN d) (by omega) (hx5.below (below_drewN (Below.refl _ _) d))).mono fun e w' h => ⟨h.1, h.2.1, only_trans (only_drewN (World.grownBy.refl _ _) d) h.2.2⟩
            have H5 := Lib.hid (And.intro hk5 (And.intro hm5 (And.intro hb5 (And.intro ha5 (And.intro hof (And.intro hst hset))))))
            clear hk5 hm5 hx5 hb5 ha5 hof hst hset hg5 HA4 ha4 hsA HC5 hy d0 d1 d2 d3
            go_wp2_with fail
            go_region_held3 (fun w' => w'.cell? ⟨wr.heap.size, 1, none⟩ = some (.int .i64 id) ∧ w'.cell? ⟨wr.heap.size, 2, none⟩ = some (.int .i64 am)) (first | exact ⟨r1, r2⟩ | exact ⟨a1, a2⟩ | go_keep)
              (first
                | (go_at_call 40; go_must (first | refine (H5.out.2.2.2.2.1 0).mono ?_ | refine (H5.out.2.2.2.2.1 1).mono ?_); rintro e w' ⟨rfl, rfl⟩)
                | (go_at_call 39; go_must (first | refine (H5.out.2.2.2.2.2.1 0).mono ?_ | refine (H5.out.2.2.2.2.2.1 1).mono ?_); rintro e w4 ⟨rfl, hx4, hg4⟩
                   have r1 : w4.cell? ⟨wr.heap.size, 1, none⟩ = some (.int .i64 id) := hg4.cell a1 (by simp; omega)
                   have r2 : w4.cell? ⟨wr.heap.size, 2, none⟩ = some (.int .i64 am) := hg4.cell a2 (by simp; omega)
                   have HX4 := Lib.hid (And.intro hx4 hg4)
                   clear hx4 hg4))
            all_goals
              obtain ⟨hx4, hg4⟩ := HX4.out
              have hk4 := H5.out.1.grown hg4 (by intro e; injection e with e; omega)
              have hm4 := H5.out.2.1.kept hg4 (by intro e; injection e with e; omega)
              have hb4 := below_only H5.out.2.2.1 hg4 (by omega) (by omega)
              have ht4 := HT.out.below (HG.out ▸ hb4)
              have ha4 := H5.out.2.2.2.1.grown hg4 (by intro e; injection e with e; omega)
              have hz4 := hg4.size
              clear a0 a1 a2 a3 r1 r2
              have a0 : w4.cell? ⟨wr.heap.size, 0, none⟩ = some (.int .i64 4) := ha4.cell 0
              have a1 : w4.cell? ⟨wr.heap.size, 1, none⟩ = some (.int .i64 id) := ha4.cell 1
              have a2 : w4.cell? ⟨wr.heap.size, 2, none⟩ = some (.int .i64 am) := ha4.cell 2
              have a3 : w4.cell? ⟨wr.heap.size, 3, none⟩ = some (.slice ta M tc) := ha4.cell 3
              have hs4 : B + 3 ≤ w4.heap.size := by omega
              have hga4 : wr.heap.size < w4.heap.size := by omega
              have H4 := Lib.hid (And.intro hk4 (And.intro hm4 (And.intro hx4 (And.intro hb4 (And.intro ht4 (And.intro H5.out.2.2.2.2.2.2 (HS.out.1.upd id (y - am))))))))
              obtain ⟨f4, hf4⟩ : ∃ f4, upd f id (clamp (y - am)) = f4 := ⟨_, rfl⟩
              obtain ⟨c4, hc4⟩ : ∃ c4, cntUpd f id (y - am) cc = c4 := ⟨_, rfl⟩
              obtain ⟨n4, hn4⟩ : ∃ n4, nn + 1 = n4 := ⟨_, rfl⟩
              obtain ⟨L4, hL4⟩ : ∃ L4, setL L id (y - am) = L4 := ⟨_, rfl⟩
              rw [hf4, hc4, hn4, hL4] at H4
              have hnn4 : n4 ≤ 31 * k + 31 := by omega
              clear hf4 hc4 hn4 hL4
              clear hx4 hg4 hk4 hm4 hb4 ht4 ha4 HX4 H5
              go_wp2_with fail
              go_meet
              case rel => exact ⟨f4, c4, n4, L4, hnn4, H4.out, a1, a3, hs4, hga4⟩
        · skip
          have HA4 := HA.out (.cells #[.int .i64 5, .int .i64 id, .int .i64 am, .slice ta M tc] 73)
          have ha4 := Blk.new wr 73 #[.int .i64 5, .int .i64 id, .int .i64 am, .slice ta M tc]
          have hsA : (wr.alloc (.cells #[.int .i64 5, .int .i64 id, .int .i64 am, .slice ta M tc] 73)).heap.size = wr.heap.size + 1 := by simp
          by_cases hbad : am < 1 ∨ 1024 < am
          · have hbd := Lib.hid hbad
            rcases (show am < 1 ∨ (¬ am < 1 ∧ 1024 < am) by omega) with h1 | ⟨h1, h2⟩
            · clear hbad
              go_wp2_with fail
              refine (charge_bad (B + 1) id am hbd.out _).mono ?_
              rintro e w4 ⟨rfl, hw4⟩
              have a1 : w4.cell? ⟨wr.heap.size, 1, none⟩ = some (.int .i64 id) := by rw [← hw4]; exact ha4.cell 1
              have a2 : w4.cell? ⟨wr.heap.size, 2, none⟩ = some (.int .i64 am) := by rw [← hw4]; exact ha4.cell 2
              have a3 : w4.cell? ⟨wr.heap.size, 3, none⟩ = some (.slice ta M tc) := by rw [← hw4]; exact ha4.cell 3
              have hs4 : B + 3 ≤ w4.heap.size := by rw [← hw4]; simp; omega
              have hga4 : wr.heap.size < w4.heap.size := by rw [← hw4]; simp
              rw [hw4] at HA4
              have H4 := Lib.hid (And.intro HA4.1 (And.intro HA4.2.1 (And.intro HA4.2.2.1 (And.intro HA4.2.2.2.1 (And.intro HA4.2.2.2.2 (And.intro HS.out.2.1 HS.out.1))))))
              obtain ⟨f4, hf4⟩ : ∃ f4, f = f4 := ⟨_, rfl⟩
              obtain ⟨c4, hc4⟩ : ∃ c4, cc = c4 := ⟨_, rfl⟩
              obtain ⟨n4, hn4⟩ : ∃ n4, nn = n4 := ⟨_, rfl⟩
              obtain ⟨L4, hL4⟩ : ∃ L4, L = L4 := ⟨_, rfl⟩
              rw [hf4, hc4, hn4, hL4] at H4
              have hnn4 : n4 ≤ 31 * k + 31 := by omega
              clear HA4 ha4 hsA hw4 hf4 hc4 hn4 hL4 d0 d1 d2 d3
              go_wp2_with fail
              go_meet
              case rel => exact ⟨f4, c4, n4, L4, hnn4, H4.out, a1, a3, hs4, hga4⟩
            · clear hbad
              go_wp2_with fail
              refine (charge_bad (B + 1) id am hbd.out _).mono ?_
              rintro e w4 ⟨rfl, hw4⟩
              have a1 : w4.cell? ⟨wr.heap.size, 1, none⟩ = some (.int .i64 id) := by rw [← hw4]; exact ha4.cell 1
              have a2 : w4.cell? ⟨wr.heap.size, 2, none⟩ = some (.int .i64 am) := by rw [← hw4]; exact ha4.cell 2
              have a3 : w4.cell? ⟨wr.heap.size, 3, none⟩ = some (.slice ta M tc) := by rw [← hw4]; exact ha4.cell 3
              have hs4 : B + 3 ≤ w4.heap.size := by rw [← hw4]; simp; omega
              have hga4 : wr.heap.size < w4.heap.size := by rw [← hw4]; simp
              rw [hw4] at HA4
              have H4 := Lib.hid (And.intro HA4.1 (And.intro HA4.2.1 (And.intro HA4.2.2.1 (And.intro HA4.2.2.2.1 (And.intro HA4.2.2.2.2 (And.intro HS.out.2.1 HS.out.1))))))
              obtain ⟨f4, hf4⟩ : ∃ f4, f = f4 := ⟨_, rfl⟩
              obtain ⟨c4, hc4⟩ : ∃ c4, cc = c4 := ⟨_, rfl⟩
              obtain ⟨n4, hn4⟩ : ∃ n4, nn = n4 := ⟨_, rfl⟩
              obtain ⟨L4, hL4⟩ : ∃ L4, L = L4 := ⟨_, rfl⟩
              rw [hf4, hc4, hn4, hL4] at H4
              have hnn4 : n4 ≤ 31 * k + 31 := by omega
              clear HA4 ha4 hsA hw4 hf4 hc4 hn4 hL4 d0 d1 d2 d3
              go_wp2_with fail
              go_meet
              case rel => exact ⟨f4, c4, n4, L4, hnn4, H4.out, a1, a3, hs4, hga4⟩
          · skip
            have n1 : ¬ am < 1 := by omega
            have n2 : ¬ 1024 < am := by omega
            have hc5 := charge_ok (B + 1) B nn cc f id am wi (by omega) (by omega) HS.out.1 (by unfold maxLen; omega) (fun h0 => MapIs.pos HA4.2.1 wi h0) _ HA4.1 HA4.2.1
            have HC5 := Lib.hid hc5
            clear hc5
            clear hbad
            go_wp2_with fail
            refine HC5.out.mono ?_
            rintro e w5 ⟨rfl, hm5, hg5⟩
            have hk5 := HA4.1.grown hg5 (by intro e; injection e with e; omega)
            have hx5 := HA4.2.2.1.grown HA4.2.1 hg5
            have hb5 := below_only HA4.2.2.2.1 hg5 (Nat.le_refl _) (by rw [hsA]; omega)
            have ha5 := ha4.grown hg5 (by intro e; injection e with e; omega)
            have hz5 := hg5.size
            rw [hsA] at hz5
            have a0 : w5.cell? ⟨wr.heap.size, 0, none⟩ = some (.int .i64 5) := ha5.cell 0
            have a1 : w5.cell? ⟨wr.heap.size, 1, none⟩ = some (.int .i64 id) := ha5.cell 1
            have a2 : w5.cell? ⟨wr.heap.size, 2, none⟩ = some (.int .i64 am) := ha5.cell 2
            have a3 : w5.cell? ⟨wr.heap.size, 3, none⟩ = some (.slice ta M tc) := ha5.cell 3
            obtain ⟨y, hy⟩ : ∃ y, f id = y := ⟨_, rfl⟩
            have hyb := HS.out.1 id
            rw [hy] at hyb hm5
            have hset := HS.out.2.1.set id (y - am) wi
            have hw1 : IntKind.i64.wrap (y - am) = y - am := IntWalk.i64_in _ (by omega)
            have hof : ∀ d, Calls Try.prog 40 #[.pointer (some ⟨B + 2, 0, none⟩), .int .i64 id] (w5.drewN d) fun e w' => e = .returned (.int .i64 y) ∧ w5.drewN d = w' := by
              intro d
              have := of_any (B + 2) L id (w5.drewN d) (by omega) (hx5.below (below_drewN (Below.refl _ _) d))
              rw [HS.out.2.1.2.1 id, hy] at this
              exact this
            have hst : ∀ d, Calls Try.prog 39 #[.pointer (some ⟨B + 2, 0, none⟩), .int .i64 id, .int .i64 (y - am)] (w5.drewN d) fun e w' => e = .returned (.tuple #[]) ∧ RefAt w' (B + 2) (setL L id (y - am)) ∧ w5.grownBy w' (some (B + 2)) := fun d =>
              (refset_any (B + 2) L id (y - am) (w5.drewN d) (by omega) (hx5.below (below_drewN (Below.refl _ _) d))).mono fun e w' h => ⟨h.1, h.2.1, only_trans (only_drewN (World.grownBy.refl _ _) d) h.2.2⟩
            have H5 := Lib.hid (And.intro hk5 (And.intro hm5 (And.intro hb5 (And.intro ha5 (And.intro hof (And.intro hst hset))))))
            clear hk5 hm5 hx5 hb5 ha5 hof hst hset hg5 HA4 ha4 hsA HC5 hy d0 d1 d2 d3
            go_wp2_with fail
            go_region_held3 (fun w' => w'.cell? ⟨wr.heap.size, 1, none⟩ = some (.int .i64 id) ∧ w'.cell? ⟨wr.heap.size, 2, none⟩ = some (.int .i64 am)) (first | exact ⟨r1, r2⟩ | exact ⟨a1, a2⟩ | go_keep)
              (first
                | (go_at_call 40; go_must (first | refine (H5.out.2.2.2.2.1 0).mono ?_ | refine (H5.out.2.2.2.2.1 1).mono ?_); rintro e w' ⟨rfl, rfl⟩)
                | (go_at_call 39; go_must (first | refine (H5.out.2.2.2.2.2.1 0).mono ?_ | refine (H5.out.2.2.2.2.2.1 1).mono ?_); rintro e w4 ⟨rfl, hx4, hg4⟩
                   have r1 : w4.cell? ⟨wr.heap.size, 1, none⟩ = some (.int .i64 id) := hg4.cell a1 (by simp; omega)
                   have r2 : w4.cell? ⟨wr.heap.size, 2, none⟩ = some (.int .i64 am) := hg4.cell a2 (by simp; omega)
                   have HX4 := Lib.hid (And.intro hx4 hg4)
                   clear hx4 hg4))
            all_goals
              obtain ⟨hx4, hg4⟩ := HX4.out
              have hk4 := H5.out.1.grown hg4 (by intro e; injection e with e; omega)
              have hm4 := H5.out.2.1.kept hg4 (by intro e; injection e with e; omega)
              have hb4 := below_only H5.out.2.2.1 hg4 (by omega) (by omega)
              have ht4 := HT.out.below (HG.out ▸ hb4)
              have ha4 := H5.out.2.2.2.1.grown hg4 (by intro e; injection e with e; omega)
              have hz4 := hg4.size
              clear a0 a1 a2 a3 r1 r2
              have a0 : w4.cell? ⟨wr.heap.size, 0, none⟩ = some (.int .i64 5) := ha4.cell 0
              have a1 : w4.cell? ⟨wr.heap.size, 1, none⟩ = some (.int .i64 id) := ha4.cell 1
              have a2 : w4.cell? ⟨wr.heap.size, 2, none⟩ = some (.int .i64 am) := ha4.cell 2
              have a3 : w4.cell? ⟨wr.heap.size, 3, none⟩ = some (.slice ta M tc) := ha4.cell 3
              have hs4 : B + 3 ≤ w4.heap.size := by omega
              have hga4 : wr.heap.size < w4.heap.size := by omega
              have H4 := Lib.hid (And.intro hk4 (And.intro hm4 (And.intro hx4 (And.intro hb4 (And.intro ht4 (And.intro H5.out.2.2.2.2.2.2 (HS.out.1.upd id (y - am))))))))
              obtain ⟨f4, hf4⟩ : ∃ f4, upd f id (clamp (y - am)) = f4 := ⟨_, rfl⟩
              obtain ⟨c4, hc4⟩ : ∃ c4, cntUpd f id (y - am) cc = c4 := ⟨_, rfl⟩
              obtain ⟨n4, hn4⟩ : ∃ n4, nn + 1 = n4 := ⟨_, rfl⟩
              obtain ⟨L4, hL4⟩ : ∃ L4, setL L id (y - am) = L4 := ⟨_, rfl⟩
              rw [hf4, hc4, hn4, hL4] at H4
              have hnn4 : n4 ≤ 31 * k + 31 := by omega
              clear hf4 hc4 hn4 hL4
              clear hx4 hg4 hk4 hm4 hb4 ht4 ha4 HX4 H5
              go_wp2_with fail
              go_meet
              case rel => exact ⟨f4, c4, n4, L4, hnn4, H4.out, a1, a3, hs4, hga4⟩
        · skip
          have HA4 := HA.out (.cells #[.int .i64 6, .int .i64 id, .int .i64 am, .slice ta M tc] 73)
          have ha4 := Blk.new wr 73 #[.int .i64 6, .int .i64 id, .int .i64 am, .slice ta M tc]
          have hsA : (wr.alloc (.cells #[.int .i64 6, .int .i64 id, .int .i64 am, .slice ta M tc] 73)).heap.size = wr.heap.size + 1 := by simp
          obtain ⟨y, hy⟩ : ∃ y, f id = y := ⟨_, rfl⟩
          have hof := of_any (B + 2) L id _ (by omega) HA4.2.2.1
          rw [HS.out.2.1.2.1 id, hy] at hof
          have hst := refset_any (B + 2) L id 0 _ (by omega) HA4.2.2.1
          have hset := HS.out.2.1.set id 0 wi
          rw [show clamp 0 = 0 from rfl] at hset
          have a0 := ha4.cell 0
          have a1 := ha4.cell 1
          have a3 := ha4.cell 3
          have HC := Lib.hid (And.intro hof (And.intro hst (And.intro hset hy)))
          clear hof hst hset hy
          by_cases hy0 : y = 0
          · skip
            subst hy0
            clear a0 a1 a3
            go_wp2_with fail
            refine HC.out.1.mono ?_
            rintro e wx ⟨rfl, rfl⟩
            go_wp2_with fail
            refine HC.out.2.1.mono ?_
            rintro e w5 ⟨rfl, hx5, hg5⟩
            have hk5 := HA4.1.grown hg5 (by intro e; injection e with e; omega)
            have hm5 := HA4.2.1.kept hg5 (by intro e; injection e with e; omega)
            have hb5 := below_only HA4.2.2.2.1 hg5 (by omega) (by rw [hsA]; omega)
            have ha5 := ha4.grown hg5 (by intro e; injection e with e; omega)
            have hz5 := hg5.size
            rw [hsA] at hz5
            have a0 : w5.cell? ⟨wr.heap.size, 0, none⟩ = some (.int .i64 6) := ha5.cell 0
            have a1 : w5.cell? ⟨wr.heap.size, 1, none⟩ = some (.int .i64 id) := ha5.cell 1
            have a3 : w5.cell? ⟨wr.heap.size, 3, none⟩ = some (.slice ta M tc) := ha5.cell 3
            have hfg := forget_any (B + 1) B nn cc f id false (by rw [HC.out.2.2.2]; simp) wi (by unfold maxLen; omega) (fun h0 => MapIs.pos hm5 wi h0) w5 hk5 hm5
            have H5 := Lib.hid (And.intro hk5 (And.intro hm5 (And.intro hb5 (And.intro ha5 (And.intro hfg hx5)))))
            clear hk5 hm5 hx5 hb5 ha5 hfg hg5 HA4 ha4 hsA d0 d1 d2 d3
            go_wp2_with fail
            refine H5.out.2.2.2.2.1.mono ?_
            rintro e w4 ⟨rfl, hm4, hg4⟩
            have hk4 := H5.out.1.grown hg4 (by intro e; injection e with e; omega)
            have hx4 := H5.out.2.2.2.2.2.grown H5.out.2.1 hg4
            have hb4 := below_only H5.out.2.2.1 hg4 (Nat.le_refl _) (by omega)
            have ht4 := HT.out.below (HG.out ▸ hb4)
            have ha4 := H5.out.2.2.2.1.grown hg4 (by intro e; injection e with e; omega)
            have hz4 := hg4.size
            clear a0 a1 a3
            have a0 : w4.cell? ⟨wr.heap.size, 0, none⟩ = some (.int .i64 6) := ha4.cell 0
            have a1 : w4.cell? ⟨wr.heap.size, 1, none⟩ = some (.int .i64 id) := ha4.cell 1
            have a3 : w4.cell? ⟨wr.heap.size, 3, none⟩ = some (.slice ta M tc) := ha4.cell 3
            have hs4 : B + 3 ≤ w4.heap.size := by omega
            have hga4 : wr.heap.size < w4.heap.size := by omega
            have H4 := Lib.hid (And.intro hk4 (And.intro hm4 (And.intro hx4 (And.intro hb4 (And.intro ht4 (And.intro HC.out.2.2.1 (show Bnd (upd f id 0) from HS.out.1.upd id 0)))))))
            obtain ⟨f4, hf4⟩ : ∃ f4, upd f id 0 = f4 := ⟨_, rfl⟩
            obtain ⟨c4, hc4⟩ : ∃ c4, cntUpd f id 0 cc = c4 := ⟨_, rfl⟩
            obtain ⟨n4, hn4⟩ : ∃ n4, nn + 1 = n4 := ⟨_, rfl⟩
            obtain ⟨L4, hL4⟩ : ∃ L4, setL L id 0 = L4 := ⟨_, rfl⟩
            rw [hf4, hc4, hn4, hL4] at H4
            have hnn4 : n4 ≤ 31 * k + 31 := by omega
            clear hf4 hc4 hn4 hL4
            clear hx4 hg4 hk4 hm4 hb4 ht4 ha4 H5 HC
            go_wp2_with fail
            go_meet
            case rel => exact ⟨f4, c4, n4, L4, hnn4, H4.out, a1, a3, hs4, hga4⟩
          · skip
            have hyn : (y != 0) = true := by simp [hy0]
            clear a0 a1 a3
            go_wp2_with fail
            refine HC.out.1.mono ?_
            rintro e wx ⟨rfl, rfl⟩
            go_wp2_with fail
            refine HC.out.2.1.mono ?_
            rintro e w5 ⟨rfl, hx5, hg5⟩
            have hk5 := HA4.1.grown hg5 (by intro e; injection e with e; omega)
            have hm5 := HA4.2.1.kept hg5 (by intro e; injection e with e; omega)
            have hb5 := below_only HA4.2.2.2.1 hg5 (by omega) (by rw [hsA]; omega)
            have ha5 := ha4.grown hg5 (by intro e; injection e with e; omega)
            have hz5 := hg5.size
            rw [hsA] at hz5
            have a0 : w5.cell? ⟨wr.heap.size, 0, none⟩ = some (.int .i64 6) := ha5.cell 0
            have a1 : w5.cell? ⟨wr.heap.size, 1, none⟩ = some (.int .i64 id) := ha5.cell 1
            have a3 : w5.cell? ⟨wr.heap.size, 3, none⟩ = some (.slice ta M tc) := ha5.cell 3
            have hfg := forget_any (B + 1) B nn cc f id true (by rw [HC.out.2.2.2]; simp [hy0]) wi (by unfold maxLen; omega) (fun h0 => MapIs.pos hm5 wi h0) w5 hk5 hm5
            have H5 := Lib.hid (And.intro hk5 (And.intro hm5 (And.intro hb5 (And.intro ha5 (And.intro hfg hx5)))))
            clear hk5 hm5 hx5 hb5 ha5 hfg hg5 HA4 ha4 hsA d0 d1 d2 d3
            go_wp2_with fail
            refine H5.out.2.2.2.2.1.mono ?_
            rintro e w4 ⟨rfl, hm4, hg4⟩
            have hk4 := H5.out.1.grown hg4 (by intro e; injection e with e; omega)
            have hx4 := H5.out.2.2.2.2.2.grown H5.out.2.1 hg4
            have hb4 := below_only H5.out.2.2.1 hg4 (Nat.le_refl _) (by omega)
            have ht4 := HT.out.below (HG.out ▸ hb4)
            have ha4 := H5.out.2.2.2.1.grown hg4 (by intro e; injection e with e; omega)
            have hz4 := hg4.size
            clear a0 a1 a3
            have a0 : w4.cell? ⟨wr.heap.size, 0, none⟩ = some (.int .i64 6) := ha4.cell 0
            have a1 : w4.cell? ⟨wr.heap.size, 1, none⟩ = some (.int .i64 id) := ha4.cell 1
            have a3 : w4.cell? ⟨wr.heap.size, 3, none⟩ = some (.slice ta M tc) := ha4.cell 3
            have hs4 : B + 3 ≤ w4.heap.size := by omega
            have hga4 : wr.heap.size < w4.heap.size := by omega
            have H4 := Lib.hid (And.intro hk4 (And.intro hm4 (And.intro hx4 (And.intro hb4 (And.intro ht4 (And.intro HC.out.2.2.1 (show Bnd (upd f id 0) from HS.out.1.upd id 0)))))))
            obtain ⟨f4, hf4⟩ : ∃ f4, upd f id 0 = f4 := ⟨_, rfl⟩
            obtain ⟨c4, hc4⟩ : ∃ c4, cntUpd f id 0 cc = c4 := ⟨_, rfl⟩
            obtain ⟨n4, hn4⟩ : ∃ n4, nn + 1 = n4 := ⟨_, rfl⟩
            obtain ⟨L4, hL4⟩ : ∃ L4, setL L id 0 = L4 := ⟨_, rfl⟩
            rw [hf4, hc4, hn4, hL4] at H4
            have hnn4 : n4 ≤ 31 * k + 31 := by omega
            clear hf4 hc4 hn4 hL4
            clear hx4 hg4 hk4 hm4 hb4 ht4 ha4 H5 HC
            go_wp2_with fail
            go_meet
            case rel => exact ⟨f4, c4, n4, L4, hnn4, H4.out, a1, a3, hs4, hga4⟩
        · skip
          have HA4 := HA.out (.cells #[.int .i64 ki, .int .i64 id, .int .i64 am, .slice ta M tc] 73)
          have ha4 := Blk.new wr 73 #[.int .i64 ki, .int .i64 id, .int .i64 am, .slice ta M tc]
          have hsA : (wr.alloc (.cells #[.int .i64 ki, .int .i64 id, .int .i64 am, .slice ta M tc] 73)).heap.size = wr.heap.size + 1 := by simp
          by_cases hbig : 30 < M
          · have hrel2 : RelD B w (k + 1) (wr.alloc (.cells #[.int .i64 ki, .int .i64 id, .int .i64 am, .slice ta M tc] 73)) := ⟨f, cc, nn, L, by omega, HS.out.1, HA4.1, HA4.2.1, HA4.2.2.1, HS.out.2.1, HA4.2.2.2.1, by omega⟩
            have HRL := Lib.hid hrel2
            clear hrel2 HA4 ha4 hsA
            go_wp2_with fail
            go_roundw
            case rel => exact ⟨k + 1, by omega, by omega, by go_num, HRL.out⟩
            case measure => simp [intOf]; omega
          · skip
            have hTM := HS.out.2.2.2
            have htr : Turns (wr.alloc (.cells #[.int .i64 ki, .int .i64 id, .int .i64 am, .slice ta M tc] 73)) (.slice ta M tc) T := by
              have := HA4.2.2.2.2
              rw [hTM] at this
              exact this
            have hnx := next_any (B + 1) B nn cc f T _ HS.out.2.2.1 (by omega) (by omega) HS.out.1 _ HA4.1 HA4.2.1 htr (by omega)
            have hbn := nextOf_bnd HS.out.1 cc T
            obtain ⟨X, hX⟩ : ∃ X, nextOf f cc T = X := ⟨_, rfl⟩
            rw [hX] at hnx hbn
            obtain ⟨⟨y1, y2⟩, f4, c4⟩ := X
            simp only at hnx hbn
            have HC := Lib.hid (And.intro hnx (And.intro hbn hX))
            clear hnx hbn hX htr
            go_wp2_with fail
            refine HC.out.1.mono ?_
            rintro e w5 ⟨rfl, hm5, hg5⟩
            have hk5 := HA4.1.grown hg5 (by intro e; injection e with e; omega)
            have hx5 := HA4.2.2.1.grown HA4.2.1 hg5
            have hb5 := below_only HA4.2.2.2.1 hg5 (Nat.le_refl _) (by rw [hsA]; omega)
            have ht5 := HT.out.below (HG.out ▸ hb5)
            rw [hTM] at ht5
            have ha5 := ha4.grown hg5 (by intro e; injection e with e; omega)
            have hz5 := hg5.size
            rw [hsA] at hz5
            have a0 : w5.cell? ⟨wr.heap.size, 0, none⟩ = some (.int .i64 ki) := ha5.cell 0
            have a1 : w5.cell? ⟨wr.heap.size, 1, none⟩ = some (.int .i64 id) := ha5.cell 1
            have a3 : w5.cell? ⟨wr.heap.size, 3, none⟩ = some (.slice ta M tc) := ha5.cell 3
            have hrn := refnext_any (B + 2) L f cc T _ (by omega) HS.out.2.1 HS.out.1 (by omega) HS.out.2.2.1 w5 hx5 ht5
            rw [HC.out.2.2] at hrn
            have H5 := Lib.hid (And.intro hk5 (And.intro hm5 (And.intro hb5 (And.intro ha5 hrn))))
            clear hk5 hm5 hx5 hb5 ha5 ht5 hrn hg5 HA4 ha4 hsA d0 d1 d2 d3 hTM
            go_wp2_with fail
            refine H5.out.2.2.2.2.mono ?_
            rintro e w4 ⟨rfl, L4, hx4, hri4, hg4⟩
            have hk4 := H5.out.1.grown hg4 (by intro e; injection e with e; omega)
            have hm4 := H5.out.2.1.kept hg4 (by intro e; injection e with e; omega)
            have hb4 := below_only H5.out.2.2.1 hg4 (by omega) (by omega)
            have ht4 := HT.out.below (HG.out ▸ hb4)
            have ha4 := H5.out.2.2.2.1.grown hg4 (by intro e; injection e with e; omega)
            have hz4 := hg4.size
            clear a0 a1 a3
            have a0 : w4.cell? ⟨wr.heap.size, 0, none⟩ = some (.int .i64 ki) := ha4.cell 0
            have a1 : w4.cell? ⟨wr.heap.size, 1, none⟩ = some (.int .i64 id) := ha4.cell 1
            have a3 : w4.cell? ⟨wr.heap.size, 3, none⟩ = some (.slice ta M tc) := ha4.cell 3
            have hs4 : B + 3 ≤ w4.heap.size := by omega
            have hga4 : wr.heap.size < w4.heap.size := by omega
            obtain ⟨n4, hn4⟩ : ∃ n4, nn + T.length = n4 := ⟨_, rfl⟩
            rw [hn4] at hm4
            have hnn4 : n4 ≤ 31 * k + 31 := by have := HS.out.2.2.2; omega
            clear hn4
            have H4 := Lib.hid (And.intro hk4 (And.intro hm4 (And.intro hx4 (And.intro hb4 (And.intro ht4 (And.intro hri4 HC.out.2.1))))))
            clear hx4 hg4 hk4 hm4 hb4 ht4 ha4 hri4 H5 HC
            go_wp2_with fail
            go_meet
            case rel => exact ⟨f4, c4, n4, L4, hnn4, H4.out, a1, a3, hs4, hga4⟩
    · have hbel' := HG.out.symm ▸ hbel
      have HBL := Lib.hid hbel'
      clear hbel hbel' hblk hm hx hri hf
      by_cases hlt : k < n
      · have h60 : ¬ k < 60 := by omega
        clear hout
        go_wp2_with fail
        go_ret
        exact ⟨rfl, HBL.out⟩
      · clear hout
        go_wp2_with fail
        go_ret
        exact ⟨rfl, HBL.out⟩

end Go.Proofs.Ytdcdfhonkjmpeaa.Pick
