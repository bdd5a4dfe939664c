import Derived.Test.YtdcdfhonkjmpeaaPickWay
import Derived.Test.YtdcdfhonkjmpeaaPickAw
import Derived.Test.YtdcdfhonkjmpeaaPickRef
import Derived.Test.YtdcdfhonkjmpeaaPickDo
import Derived.Test.YtdcdfhonkjmpeaaPickFa
namespace Go.Proofs.Ytdcdfhonkjmpeaa.PickWaits
open Go.ChangeShapes Go.WideShapes Go.ChangeAt Go.RowKit Go.Deep
set_option linter.unusedVariables false
open Pick PickFair

/-- What a round of the calls ahead starts from. -/
def RelB (Z B : Nat) (w : World) (k : Nat) (wr : World) : Prop :=
  ∃ (f : Int → Int) (cc nn : Nat), nn ≤ 31 * k ∧ Bnd f ∧ Blk wr (B + 1) 97 #[.map (some B)] ∧ MapIs wr B nn f cc ∧ Below Z w wr ∧ B + 2 ≤ wr.heap.size

/-- The others among the first j. -/
def otherTo (O : List Turn) (id : Int) (j : Nat) : List Turn := (O.take j).filter fun t => t.1 != id
theorem other_yes {O : List Turn} {id : Int} {j : Nat} {t : Turn} (ht : O[j]? = some t) (h : t.1 ≠ id) : otherTo O id (j + 1) = otherTo O id j ++ [t] := by
  unfold otherTo
  rw [List.take_add_one, ht, List.filter_append]
  simp [h]
theorem other_no {O : List Turn} {id : Int} {j : Nat} {t : Turn} (ht : O[j]? = some t) (h : t.1 = id) : otherTo O id (j + 1) = otherTo O id j := by
  unfold otherTo
  rw [List.take_add_one, ht, List.filter_append]
  simp [h]
theorem other_len (O : List Turn) (id : Int) (j : Nat) : (otherTo O id j).length ≤ j := by
  have h1 := List.length_filter_le (fun t : Turn => t.1 != id) (O.take j)
  rw [List.length_take] at h1
  unfold otherTo
  omega
theorem other_ne (O : List Turn) (id : Int) (j : Nat) : ∀ t ∈ otherTo O id j, t.1 ≠ id ∧ t ∈ O := by
  intro t ht
  obtain ⟨h1, h2⟩ := List.mem_filter.1 ht
  simp at h2
  exact ⟨h2, List.mem_of_mem_take h1⟩

set_option maxRecDepth 100000 in
set_option maxHeartbeats 6400000 in
theorem walk (w : World) (A1 : Option Addr) (n1 c1 : Nat) (hn1 : n1 ≤ c1) (hc1 : c1 ≤ maxLen) (he1 : Elems w A1 n1 [IsInt .i64, IsInt .i64, IsInt .i64, IsSlice w [IsInt .i64, IsInt .i64, IsBool]])
    (id : Int) (hid : (Lit.int .i64 id).wf = true) (wt : Int) (hwt : (Lit.int .u8 wt).wf = true) (A2 : Option Addr) (n2 c2 : Nat) (hn2 : n2 ≤ c2) (hc2 : c2 ≤ maxLen) (he2 : Elems w A2 n2 [IsInt .i64, IsInt .i64, IsBool])
    (A3 : Option Addr) (n3 c3 : Nat) (hn3 : n3 ≤ c3) (hc3 : c3 ≤ maxLen) (he3 : Elems w A3 n3 [IsInt .u16]) :
    Calls Try.prog 9 #[.agg #[.slice A1 n1 c1, .int .i64 id, .int .u8 wt, .slice A2 n2 c2, .slice A3 n3 c3]] w fun e w' => e = .returned (.bool true) ∧ Below w.heap.size w w' := by
  obtain ⟨O, hO, hOw⟩ := turns_of ⟨A2, n2, c2, rfl, hn2, hc2, he2⟩
  have hO2 := hO
  obtain ⟨_, _, eO, _⟩ := hO2
  have hmO : n2 = O.length := by injection eO
  clear eO
  have hwb : 0 ≤ wt ∧ wt ≤ 255 := by
    simp [Lit.wf, IntKind.min, IntKind.max, IntKind.bits, IntKind.signed] at hwt
    omega
  have HE := Lib.hid (And.intro he1 (And.intro hO (And.intro hOw (And.intro he3 (And.intro hmO hid)))))
  clear he1 hO hOw he3 he2 hc1 hc2 hc3 hwt hmO hid
  have hqb := fun d => below_drewN ((Below.refl w.heap.size w).alloc (Nat.le_refl _) (.cells #[.slice A1 n1 c1, .int .i64 id, .int .u8 wt, .slice A2 n2 c2, .slice A3 n3 c3] 71)) d
  have hqs : ∀ d, ((w.alloc (.cells #[.slice A1 n1 c1, .int .i64 id, .int .u8 wt, .slice A2 n2 c2, .slice A3 n3 c3] 71)).drewN d).heap.size = w.heap.size + 1 := fun d => by simp [World.drewN]
  obtain ⟨Z, hZ⟩ : ∃ Z, w.heap.size = Z := ⟨_, rfl⟩
  have hqb2 : ∀ d, Below Z w ((w.alloc (.cells #[.slice A1 n1 c1, .int .i64 id, .int .u8 wt, .slice A2 n2 c2, .slice A3 n3 c3] 71)).drewN d) := fun d => by rw [← hZ]; exact hqb d
  rw [hZ] at hqs
  clear hqb
  have HG := Lib.hid (And.intro hZ (And.intro hqb2 hqs))
  clear hZ hqb2 hqs
  by_cases hbad : 6 < n2
  · go_enter Try.func9, Try.ntmps9
    go_wp2_with fail
    go_quiet (fail)
    go_wp2_with fail
    refine (new_any _).mono ?_
    rintro e w1 ⟨rfl, hk1, hm1, hb1, hz1⟩
    simp only [HG.out.2.2] at hb1 hz1 ⊢
    have HB1 := Lib.hid (And.intro ((HG.out.2.1 _).trans (hb1.mono (by omega))) hz1)
    clear hk1 hm1 hb1 hz1
    go_wp2_with fail
    refine (awake_any _).mono ?_
    rintro e w3 ⟨rfl, hm3⟩
    have hm3' := HB1.out.1.trans (hm3.mono (by have := HB1.out.2; omega))
    clear hm3
    go_wp2_with fail
    refine (awake_any _).mono ?_
    rintro e w4 ⟨rfl, hm4⟩
    go_wp2_with fail
    go_ret
    exact ⟨rfl, HG.out.1.symm ▸ (hm3'.trans (hm4.mono (by have := hm3'.size; have := HG.out.1; omega)))⟩
  obtain ⟨i62, hi62, hz0, hzz1, hz2⟩ := info_parts info62
  go_enter Try.func9, Try.ntmps9
  go_wp2_with fail
  go_quiet (fail)
  go_wp2_with fail
  refine (new_any _).mono ?_
  rintro e w1 ⟨rfl, hk1, hm1, hb1, hz1⟩
  simp only [HG.out.2.2] at hk1 hm1 hb1 hz1 ⊢
  have H1 := Lib.hid (And.intro hk1 (And.intro hm1 ((HG.out.2.1 _).trans (hb1.mono (by omega)))))
  clear hk1 hm1 hb1
  obtain ⟨B, hB⟩ : ∃ B, Z + 1 = B := ⟨_, rfl⟩
  rw [hB] at hz1 H1 ⊢
  go_wp2_with fail
  refine (awake_any _).mono ?_
  rintro e w3 ⟨rfl, hm3⟩
  have hrb : RelB Z B w 0 w3 := ⟨fun _ => 0, 0, 0, by omega, fun i => by simp, H1.out.1.below hm3 H1.out.1.lt, H1.out.2.1.below hm3, H1.out.2.2.trans (hm3.mono (by omega)), by have := hm3.size; omega⟩
  have H3 := Lib.hid hrb
  clear hrb hm3 H1
  go_wp2_with fail
  go_loopw [9] (fun i wr => ∃ k : Nat, k ≤ n1 ∧ k ≤ 30 ∧ i = .int .i64 k ∧ RelB Z B w k wr) (fun i _ => n1 - (intOf i).toNat)
  case atStart => exact ⟨0, Nat.zero_le _, Nat.zero_le _, rfl, H3.out⟩
  case round =>
    clear H3
    obtain ⟨k, hk, hk30, rfl, f, cc, nn, hnn, hf, hblk, hm, hbel, hsr⟩ := hrel
    have hin : k < n1 ∧ k < 30 ∨ ¬ (k < n1 ∧ k < 30) := by omega
    rcases hin with ⟨hlt, h30⟩ | hout
    · obtain ⟨b, off, rfl, hbw, hcell⟩ := HE.out.1 (by omega)
      obtain ⟨v0, c0, ki, rfl, wk⟩ := hcell k hlt 0 _ rfl
      obtain ⟨v1, c1', x, rfl, wx⟩ := hcell k hlt 1 _ rfl
      obtain ⟨v2, c2', am, rfl, wa⟩ := hcell k hlt 2 _ rfl
      obtain ⟨v3, c3', hv3⟩ := hcell k hlt 3 _ rfl
      obtain ⟨T, hT, hTw⟩ := turns_of hv3
      have hTr := hT.below (HG.out.1 ▸ hbel)
      obtain ⟨ta, tc, rfl, htc, _⟩ := hT
      obtain ⟨M, hM⟩ : ∃ M, T.length = M := ⟨_, rfl⟩
      rw [hM] at c3' htc hTr
      clear hcell hv3 wk
      rw [← hbel.cell (p := ⟨b, _, none⟩) (by rw [← HG.out.1]; exact hbw)] at c0 c1' c2' c3'
      have d0 : wr.cell? ⟨b, off + k * 4, none⟩ = some (.int .i64 ki) := c0
      have d1 : wr.cell? ⟨b, off + k * 4 + 1, none⟩ = some (.int .i64 x) := c1'
      have d2 : wr.cell? ⟨b, off + k * 4 + 2, none⟩ = some (.int .i64 am) := c2'
      have d3 : wr.cell? ⟨b, off + k * 4 + 3, none⟩ = some (.slice ta M tc) := c3'
      clear c0 c1' c2' c3'
      have HX := Lib.hid (And.intro hf (And.intro hblk (And.intro hm (And.intro hbel (And.intro hTr (And.intro hTw hM))))))
      clear hf hblk hm hbel hTr hTw hM
      rcases (show ki = 4 ∨ ki = 5 ∨ (ki ≠ 4 ∧ ki ≠ 5) by omega) with rfl | rfl | ⟨h4, h5⟩
      · skip
        by_cases hbad2 : am < 1 ∨ 1024 < am
        · have hbd := Lib.hid hbad2
          clear hbad2
          have hrel2 : ∀ d, RelB Z B w (k + 1) (wr.drewN d) := fun d => ⟨f, cc, nn, by omega, HX.out.1, HX.out.2.1.drewN d, HX.out.2.2.1.drewN d, below_drewN HX.out.2.2.2.1 d, hsr⟩
          have HRL := Lib.hid hrel2
          clear hrel2
          go_wp2_with fail
          go_region_held3 (fun w' => w'.cell? ⟨b, off + k * 4 + 1, none⟩ = some (.int .i64 x) ∧ w'.cell? ⟨b, off + k * 4 + 2, none⟩ = some (.int .i64 am)) (first | exact ⟨d1, d2⟩ | go_keep)
            (first | (go_at_call 35; go_must (refine (charge_bad (B + 1) x am hbd.out _).mono ?_); rintro e w' ⟨rfl, rfl⟩))
          all_goals
            go_wp2_with fail
            go_roundw
            case rel => exact ⟨k + 1, by omega, by omega, by go_num, by first | exact HRL.out 0 | exact HRL.out 1⟩
            case measure => simp [intOf]; omega
        · have hc5 : ∀ d, Calls Try.prog 35 #[.pointer (some ⟨B + 1, 0, none⟩), .int .i64 x, .int .i64 am] (wr.drewN d) fun e w' => e = .returned (.int .i64 0) ∧ RelB Z B w (k + 1) w' ∧ wr.grownBy w' (some B) := fun d =>
            (charge_ok (B + 1) B nn cc f x am wx (by omega) (by omega) HX.out.1 (by unfold maxLen; omega) (fun h0 => MapIs.pos HX.out.2.2.1 wx h0) _ (HX.out.2.1.drewN d) (HX.out.2.2.1.drewN d)).mono fun e w5 h =>
              have hg5 : wr.grownBy w5 (some B) := only_trans (only_drewN (World.grownBy.refl _ _) d) h.2.2
              ⟨h.1, ⟨_, _, nn + 1, by omega, HX.out.1.upd x (f x - am), HX.out.2.1.grown hg5 (by intro e; injection e with e; omega), h.2.1, below_only HX.out.2.2.2.1 hg5 (by omega) (by omega), by have := hg5.size; omega⟩, hg5⟩
          have HC5 := Lib.hid hc5
          clear hc5
          clear hbad2
          have hbB : b < B := by have := HG.out.1; omega
          go_wp2_with fail
          go_region_held3 (fun w' => w'.cell? ⟨b, off + k * 4 + 1, none⟩ = some (.int .i64 x) ∧ w'.cell? ⟨b, off + k * 4 + 2, none⟩ = some (.int .i64 am)) (first | exact ⟨r1, r2⟩ | exact ⟨d1, d2⟩ | go_keep)
            (first
              | (go_at_call 35; go_must (first | refine (HC5.out 0).mono ?_ | refine (HC5.out 1).mono ?_); rintro e w5 ⟨rfl, hr5, hg5⟩
                 have r1 : w5.cell? ⟨b, off + k * 4 + 1, none⟩ = some (.int .i64 x) := hg5.cell d1 (by simp; omega)
                 have r2 : w5.cell? ⟨b, off + k * 4 + 2, none⟩ = some (.int .i64 am) := hg5.cell d2 (by simp; omega)
                 have HRL := Lib.hid hr5
                 clear hr5 hg5))
          all_goals
            clear r1 r2
            go_wp2_with fail
            go_roundw
            case rel => exact ⟨k + 1, by omega, by omega, by go_num, HRL.out⟩
            case measure => simp [intOf]; omega
      · skip
        by_cases hbad2 : am < 1 ∨ 1024 < am
        · have hbd := Lib.hid hbad2
          clear hbad2
          have hrel2 : ∀ d, RelB Z B w (k + 1) (wr.drewN d) := fun d => ⟨f, cc, nn, by omega, HX.out.1, HX.out.2.1.drewN d, HX.out.2.2.1.drewN d, below_drewN HX.out.2.2.2.1 d, hsr⟩
          have HRL := Lib.hid hrel2
          clear hrel2
          go_wp2_with fail
          go_region_held3 (fun w' => w'.cell? ⟨b, off + k * 4 + 1, none⟩ = some (.int .i64 x) ∧ w'.cell? ⟨b, off + k * 4 + 2, none⟩ = some (.int .i64 am)) (first | exact ⟨d1, d2⟩ | go_keep)
            (first | (go_at_call 35; go_must (refine (charge_bad (B + 1) x am hbd.out _).mono ?_); rintro e w' ⟨rfl, rfl⟩))
          all_goals
            go_wp2_with fail
            go_roundw
            case rel => exact ⟨k + 1, by omega, by omega, by go_num, by first | exact HRL.out 0 | exact HRL.out 1⟩
            case measure => simp [intOf]; omega
        · have hc5 : ∀ d, Calls Try.prog 35 #[.pointer (some ⟨B + 1, 0, none⟩), .int .i64 x, .int .i64 am] (wr.drewN d) fun e w' => e = .returned (.int .i64 0) ∧ RelB Z B w (k + 1) w' ∧ wr.grownBy w' (some B) := fun d =>
            (charge_ok (B + 1) B nn cc f x am wx (by omega) (by omega) HX.out.1 (by unfold maxLen; omega) (fun h0 => MapIs.pos HX.out.2.2.1 wx h0) _ (HX.out.2.1.drewN d) (HX.out.2.2.1.drewN d)).mono fun e w5 h =>
              have hg5 : wr.grownBy w5 (some B) := only_trans (only_drewN (World.grownBy.refl _ _) d) h.2.2
              ⟨h.1, ⟨_, _, nn + 1, by omega, HX.out.1.upd x (f x - am), HX.out.2.1.grown hg5 (by intro e; injection e with e; omega), h.2.1, below_only HX.out.2.2.2.1 hg5 (by omega) (by omega), by have := hg5.size; omega⟩, hg5⟩
          have HC5 := Lib.hid hc5
          clear hc5
          clear hbad2
          have hbB : b < B := by have := HG.out.1; omega
          go_wp2_with fail
          go_region_held3 (fun w' => w'.cell? ⟨b, off + k * 4 + 1, none⟩ = some (.int .i64 x) ∧ w'.cell? ⟨b, off + k * 4 + 2, none⟩ = some (.int .i64 am)) (first | exact ⟨r1, r2⟩ | exact ⟨d1, d2⟩ | go_keep)
            (first
              | (go_at_call 35; go_must (first | refine (HC5.out 0).mono ?_ | refine (HC5.out 1).mono ?_); rintro e w5 ⟨rfl, hr5, hg5⟩
                 have r1 : w5.cell? ⟨b, off + k * 4 + 1, none⟩ = some (.int .i64 x) := hg5.cell d1 (by simp; omega)
                 have r2 : w5.cell? ⟨b, off + k * 4 + 2, none⟩ = some (.int .i64 am) := hg5.cell d2 (by simp; omega)
                 have HRL := Lib.hid hr5
                 clear hr5 hg5))
          all_goals
            clear r1 r2
            go_wp2_with fail
            go_roundw
            case rel => exact ⟨k + 1, by omega, by omega, by go_num, HRL.out⟩
            case measure => simp [intOf]; omega
      · have hb4 : (ki == 4) = false := by simp [h4]
        have hb5 : (ki == 5) = false := by simp [h5]
        by_cases hbig : M ≤ 30
        · have hMT := HX.out.2.2.2.2.2.2
          have htr := HX.out.2.2.2.2.1
          have htr2 : Turns wr (.slice ta M tc) T := htr
          have hnx := next_any (B + 1) B nn cc f T _ HX.out.2.2.2.2.2.1 (by omega) (by omega) HX.out.1 _ HX.out.2.1 HX.out.2.2.1 htr2 (by omega)
          have hbn := nextOf_bnd' HX.out.1 cc T
          obtain ⟨X, hX⟩ : ∃ X, nextOf f cc T = X := ⟨_, rfl⟩
          rw [hX] at hnx hbn
          obtain ⟨⟨y1, y2⟩, f4, c4⟩ := X
          simp only at hnx hbn
          have HC := Lib.hid (And.intro hnx (And.intro hbn hMT))
          clear hnx hbn hX htr htr2 hMT
          go_wp2_with fail
          refine HC.out.1.mono ?_
          rintro e w5 ⟨rfl, hm5, hg5⟩
          have hrel2 : RelB Z B w (k + 1) w5 := ⟨_, _, nn + T.length, by have := HC.out.2.2; omega, HC.out.2.1, HX.out.2.1.grown hg5 (by intro e; injection e with e; omega), hm5, below_only HX.out.2.2.2.1 hg5 (by omega) (by omega), by have := hg5.size; omega⟩
          have HRL := Lib.hid hrel2
          clear hrel2 hm5 hg5
          go_wp2_with fail
          go_roundw
          case rel => exact ⟨k + 1, by omega, by omega, by go_num, HRL.out⟩
          case measure => simp [intOf]; omega
        · have hrel2 : RelB Z B w (k + 1) wr := ⟨f, cc, nn, by omega, HX.out.1, HX.out.2.1, HX.out.2.2.1, HX.out.2.2.2.1, hsr⟩
          have HRL := Lib.hid hrel2
          clear hrel2
          go_wp2_with fail
          go_roundw
          case rel => exact ⟨k + 1, by omega, by omega, by go_num, HRL.out⟩
          case measure => simp [intOf]; omega
    · have hleft := left_any (B + 1) B nn cc f id HE.out.2.2.2.2.2 wr hblk hm
      obtain ⟨y, hy⟩ : ∃ y, f id = y := ⟨_, rfl⟩
      rw [hy] at hleft
      have HX := Lib.hid (And.intro hf (And.intro hblk (And.intro hm (And.intro hbel (And.intro hleft hy)))))
      clear hf hblk hm hbel hleft hy
      have hcond : (k < n1 ∧ ¬ k < 30) ∨ ¬ k < n1 := by omega
      clear hout
      by_cases hy20 : y < -20
      · rcases hcond with ⟨q1, q2⟩ | q1
        all_goals
          go_wp2_with fail
          refine HX.out.2.2.2.2.1.mono ?_
          rintro e w5 ⟨rfl, rfl⟩
          go_wp2_with fail
          go_ret
          exact ⟨rfl, HG.out.1.symm ▸ HX.out.2.2.2.1⟩
      rcases hcond with ⟨q1, q2⟩ | q1
      all_goals
        go_wp2_with fail
        refine HX.out.2.2.2.2.1.mono ?_
        rintro e w5 ⟨rfl, rfl⟩
        go_wp2_with fail
        obtain ⟨C, hC⟩ : ∃ C, wr.heap.size = C := ⟨_, rfl⟩
        have hbC : Below C wr wr := Below.refl _ _
        have hZB : Z < C := by have := HG.out.1; omega
        rw [hC] at hsr
        have HC := Lib.hid (And.intro hC hbC)
        clear hC hbC
        go_loopw [10, 11] (fun vl i wx => ∃ j : Nat, j ≤ n2 ∧ i = .int .i64 j ∧ wx.ownsRow C 62 3 vl (otherTo O id j).length (cellsT (otherTo O id j)) ∧ Below C wr wx) (fun _ i _ => n2 - (intOf i).toNat)
        case atStart => exact ⟨0, Nat.zero_le _, rfl, by simp [otherTo]; exact World.ownsRow_nil _ _ _ _, HC.out.2⟩
        case round =>
          obtain ⟨j, hj, rfl, hown, hbel⟩ := hrel
          have hsx : C ≤ wr.heap.size := by have := hbel.size; have := HC.out.1; omega
          have hbw := HX.out.2.2.2.1.trans (hbel.mono (by omega))
          rcases (show j < n2 ∨ j = n2 by omega) with hjn | hjn
          · have hOn := HE.out.2.2.2.2.1
            obtain ⟨t, ht⟩ : ∃ t, O[j]? = some t := ⟨O[j]'(by omega), List.getElem?_eq_getElem _⟩
            obtain ⟨aa, cq, e1, _, h3⟩ := HE.out.2.1.below (HG.out.1.symm ▸ hbw)
            obtain ⟨bq, oq, e2, hbq, h4⟩ := h3 (by omega)
            injection e1 with e1 e5 e6
            clear e5 e6
            rw [e2] at e1
            subst e1
            obtain ⟨q0, q1, q2⟩ := h4 j t ht
            have hkl := other_len O id j
            have hold := hown.lt
            have hbelA := fun o => hbel.alloc hsx o
            have HK := Lib.hid (And.intro hown (And.intro hbel (And.intro hkl (And.intro hold (And.intro hbelA ht)))))
            clear h3 h4 e2 hown hbel hkl hold hbelA ht hOn hbw
            obtain ⟨ti, tw, tr⟩ := t
            simp only at q0 q1 q2
            by_cases he : ti = id
            · subst he
              go_wp2_with fail
              go_roundw
              case rel => exact ⟨j + 1, by omega, by go_num, by rw [other_no HK.out.2.2.2.2.2 rfl]; exact HK.out.1, HK.out.2.1⟩
              case measure => simp [intOf]; omega
            · have hkl := HK.out.2.2.1
              have hnb := Blk.new wr 62 #[.int .i64 ti, .int .i64 tw, .bool tr]
              have HNB := Lib.hid hnb
              clear hnb
              go_wp2_with (at_builtin; refine wpList_append_own _ rfl _ _ 60 rfl C 62 i62 _ 3 24 und60 hi62 hz0 hzz1 hz2 rfl (by decide) _ _ _ rfl (by exact HK.out.1.alloc _) ⟨wr.heap.size, 0, none⟩ 1 1 [.int .i64 ti, .int .i64 tw, .bool tr] (by simp [Act.eval]) rfl (by exact three_cells HNB.out) (by simp [Value.oneCell']) (by unfold maxLen; omega) (by omega) (by simp; omega) ?_)
              intro v5 w5 hown5 hg5 hiff
              have hbel5 := (HK.out.2.2.2.2.1 (.cells #[.int .i64 ti, .int .i64 tw, .bool tr] 62)).grown hg5 (by simp; omega) (fun k hk => by have := (HK.out.2.2.2.1 k hk).1; omega)
              have hown6 : w5.ownsRow C 62 3 v5 (otherTo O id (j + 1)).length (cellsT (otherTo O id (j + 1))) := by
                rw [other_yes HK.out.2.2.2.2.2 he, List.length_append, cellsT_append]
                exact hown5
              have HR := Lib.hid (And.intro hown6 hbel5)
              clear hown5 hg5 hiff hbel5 hown6 HNB q0 q1 q2
              go_wp2_with fail
              go_roundw
              case rel => exact ⟨j + 1, by omega, by go_num, HR.out.1, HR.out.2⟩
              case measure => simp [intOf]; omega
          · subst hjn
            have hkl := other_len O id j
            have hold := hown.lt
            have hbelA := fun o => hbel.alloc hsx o
            have HK := Lib.hid (And.intro hown (And.intro hbel (And.intro hold hbelA)))
            have hnb := Blk.new wr 62 #[.int .i64 id, .int .i64 wt, .bool true]
            have HNB := Lib.hid hnb
            clear hnb
            clear hown hbel hold hbelA hbw
            go_wp2_with (at_builtin; refine wpList_append_own _ rfl _ _ 60 rfl C 62 i62 _ 3 24 und60 hi62 hz0 hzz1 hz2 rfl (by decide) _ _ _ rfl (by exact HK.out.1.alloc _) ⟨wr.heap.size, 0, none⟩ 1 1 [.int .i64 id, .int .i64 wt, .bool true] (by simp [Act.eval]) rfl (by exact three_cells HNB.out) (by simp [Value.oneCell']) (by unfold maxLen; omega) (by omega) (by simp; omega) ?_)
            intro v5 w5 hown5 hg5 hiff
            have hbel5 := (HK.out.2.2.2 (.cells #[.int .i64 id, .int .i64 wt, .bool true] 62)).grown hg5 (by simp; omega) (fun k hk => by have := (HK.out.2.2.1 k hk).1; omega)
            obtain ⟨T, hT⟩ : ∃ T, otherTo O id j ++ [(id, wt, true)] = T := ⟨_, rfl⟩
            have hown6 : w5.ownsRow C 62 3 v5 T.length (cellsT T) := by
              rw [← hT, List.length_append, cellsT_append]
              exact hown5
            have htu : Turns w5 v5 T := turns_own hown6
            have htu0 := htu
            obtain ⟨ta, tc, rfl, htc, _⟩ := htu0
            obtain ⟨R', hR, hRl, hRn⟩ := rdy_last (O := otherTo O id j) (x := (id, wt, true)) (fun t ht => (other_ne O id j t ht).1) rfl
            rw [hT] at hR
            have hTl : T.length ≤ 7 := by rw [← hT, List.length_append, List.length_singleton]; omega
            have hTR : R'.length + 1 ≤ T.length := by rw [← hT, List.length_append, List.length_singleton]; omega
            have hTw : ∀ t ∈ T, Wf t.1 := by
              intro t ht
              rw [← hT] at ht
              rcases List.mem_append.1 ht with h | h
              · exact HE.out.2.2.1 t (other_ne O id j t h).2
              · simp at h; subst h; exact HE.out.2.2.2.2.2
            have hphi : Phi R' id f + ((0 : Nat) : Int) ≤ 6400 * (R'.length : Int) := by
              have h1 := posS_le f R' 1024 (by omega) fun t _ => (HX.out.1 t.1).2
              have h2 := HX.out.2.2.2.2.2
              have h3 : 256 * (R'.length : Int) * max (1 - f id) 0 ≤ 256 * (R'.length : Int) * 21 := Int.mul_le_mul_of_nonneg_left (by omega) (by omega)
              unfold Phi
              omega
            obtain ⟨M, hM⟩ : ∃ M, T.length = M := ⟨_, rfl⟩
            rw [hM] at htu hTl hTR htc ⊢
            have hrel0 : ∃ (f : Int → Int) (cc nn : Nat), nn ≤ 930 + 8 * 0 ∧ Bnd f ∧ Phi R' id f + ((0 : Nat) : Int) ≤ 6400 * (R'.length : Int) ∧ Blk w5 (B + 1) 97 #[.map (some B)] ∧ MapIs w5 B nn f cc ∧ Below Z w w5 ∧ Turns w5 (.slice ta M tc) T ∧ B + 2 ≤ w5.heap.size :=
              ⟨f, cc, nn, by omega, HX.out.1, hphi, HX.out.2.1.below hbel5 (by omega), HX.out.2.2.1.below (by rw [HC.out.1]; exact hbel5), HX.out.2.2.2.1.trans (hbel5.mono (by omega)), htu, by have := hbel5.size; have := HC.out.1; omega⟩
            have HR := Lib.hid (And.intro hrel0 (And.intro hR (And.intro hRn (And.intro hTw hM))))
            clear hrel0 hR hRn hTw hM hphi htu hown6 hown5 hg5 hiff hbel5 hT HNB HK HC HX
            obtain ⟨q, hq⟩ : ∃ q, R'.length = q := ⟨_, rfl⟩
            rw [hq] at hTR HR
            have HQ := Lib.hid hq
            clear hq hRl
            go_wp2_with fail
            go_loopw [13] (fun iv wx => ∃ (i : Nat) (f : Int → Int) (cc nn : Nat), iv = .int .i64 i ∧ nn ≤ 930 + 8 * i ∧ Bnd f ∧ Phi R' id f + (i : Int) ≤ 6400 * (q : Int) ∧ Blk wx (B + 1) 97 #[.map (some B)] ∧ MapIs wx B nn f cc ∧ Below Z w wx ∧ Turns wx (.slice ta M tc) T ∧ B + 2 ≤ wx.heap.size) (fun iv _ => 100000 - (intOf iv).toNat)
            case atStart =>
              obtain ⟨f, cc, nn, h⟩ := HR.out.1
              exact ⟨0, f, cc, nn, rfl, h⟩
            case round =>
              obtain ⟨i, f, cc, nn, rfl, hnn, hf, hphi, hblk, hm, hbel, htx, hsx2⟩ := hrel
              have hpn := phi_nonneg R' id f
              have hib : (i : Int) ≤ 6400 * (q : Int) := by omega
              have hilt : (i : Int) < ((M : Int) + 1) * 6656 := by omega
              have hwm : IntKind.i64.wrap ((M : Int) + 1) = (M : Int) + 1 := IntWalk.i64_in _ (by omega)
              have hwmm : IntKind.i64.wrap (((M : Int) + 1) * 6656) = ((M : Int) + 1) * 6656 := IntWalk.i64_in _ (by omega)
              have hMT := HR.out.2.2.2.2
              obtain ⟨s1, s2⟩ := wait_step hf cc HR.out.2.1 HR.out.2.2.1
              have hbn := nextOf_bnd' hf cc T
              have hna := next_any (B + 1) B nn cc f T _ HR.out.2.2.2.1 (by omega) (by omega) hf _ hblk hm htx (by omega)
              obtain ⟨N, hN⟩ : ∃ N, nextOf f cc T = N := ⟨_, rfl⟩
              rw [hN] at hna s1 s2 hbn
              obtain ⟨⟨y1, y2⟩, F, C2⟩ := N
              simp only at hna s1 s2 hbn
              subst s1
              have HY := Lib.hid (And.intro hna (And.intro hbn (And.intro hblk (And.intro hm (And.intro hbel (And.intro htx hphi))))))
              clear hna hbn hblk hm hbel htx hN hphi hpn hf
              rcases s2 with rfl | ⟨hne, hmem, hdec⟩
              · go_wp2_with fail
                refine HY.out.1.mono ?_
                rintro e w6 ⟨rfl, hm6, hg6⟩
                have hb6 := below_only HY.out.2.2.2.2.1 hg6 (by omega) (by omega)
                have HB6 := Lib.hid hb6
                clear hb6
                clear hm6 hg6
                go_wp2_with fail
                go_ret
                exact ⟨rfl, HG.out.1.symm ▸ HB6.out⟩
              · have hy1w : Wf y1 := by
                  obtain ⟨t, ht, rfl⟩ := hmem
                  exact HR.out.2.2.2.1 t ht
                clear hmem
                have HDEC := Lib.hid hdec
                clear hdec
                obtain ⟨z, hz⟩ : ∃ z, F y1 = z := ⟨_, rfl⟩
                have hpost : ∀ (w6 : World) (k : Int), 1 ≤ k → k ≤ 1024 → MapIs w6 B (nn + T.length) F C2 → wr.grownBy w6 (some B) →
                    Calls Try.prog 35 #[.pointer (some ⟨B + 1, 0, none⟩), .int .i64 y1, .int .i64 k] w6 fun e w' => e = .returned (.int .i64 0) ∧ ∃ (f : Int → Int) (cc nn : Nat), nn ≤ 930 + 8 * (i + 1) ∧ Bnd f ∧ Phi R' id f + ((i + 1 : Nat) : Int) ≤ 6400 * (q : Int) ∧ Blk w' (B + 1) 97 #[.map (some B)] ∧ MapIs w' B nn f cc ∧ Below Z w w' ∧ Turns w' (.slice ta M tc) T ∧ B + 2 ≤ w'.heap.size := by
                  intro w6 k hk1 hk2 hm6 hg6
                  have hk6 := HY.out.2.2.1.grown hg6 (by intro e; injection e with e; omega)
                  refine (charge_ok (B + 1) B (nn + T.length) C2 F y1 k hy1w hk1 hk2 HY.out.2.1 (by unfold maxLen; omega) (fun h0 => MapIs.pos hm6 hy1w h0) w6 hk6 hm6).mono ?_
                  rintro e w7 ⟨rfl, hm7, hg7⟩
                  have hd := HDEC.out k hk1
                  have hp := HY.out.2.2.2.2.2.2
                  exact ⟨rfl, _, _, nn + T.length + 1, by omega, HY.out.2.1.upd y1 (F y1 - k), by omega, hk6.grown hg7 (by intro e; injection e with e; omega), hm7, below_only (below_only HY.out.2.2.2.2.1 hg6 (by omega) (by omega)) hg7 (by omega) (by have := hg6.size; omega), (HY.out.2.2.2.2.2.1.grown HY.out.2.2.2.1 hg6).grown hm6 hg7, by have := hg6.size; have := hg7.size; omega⟩
                have HP := Lib.hid hpost
                clear hpost hz
                by_cases hi3 : i < n3
                · obtain ⟨b3, o3, rfl, hb3, hcell3⟩ := HE.out.2.2.2.1 (by omega)
                  obtain ⟨v3, c3', x3, rfl, w3'⟩ := hcell3 i hi3 0 _ rfl
                  have hx3 : 0 ≤ x3 ∧ x3 ≤ 65535 := by
                    simp [Lit.wf, IntKind.min, IntKind.max, IntKind.bits, IntKind.signed] at w3'
                    omega
                  have hbB : b3 < Z := by have := HG.out.1; omega
                  obtain ⟨u, hu⟩ : ∃ u, x3 % 1024 = u := ⟨_, rfl⟩
                  have hub : 0 ≤ u ∧ u ≤ 1023 := by omega
                  have hwu : IntKind.i64.wrap (u + 1) = u + 1 := IntWalk.i64_in _ (by omega)
                  have c30 : w.cell? ⟨b3, o3 + i, none⟩ = some (.int .u16 x3) := by simpa using c3'
                  have HC3 := Lib.hid (And.intro c30 hb3)
                  clear hcell3 c3' c30 hb3 w3'
                  go_wp2_with fail
                  refine HY.out.1.mono ?_
                  rintro e w6 ⟨rfl, hm6, hg6⟩
                  have c36 : w6.cell? ⟨b3, o3 + i, none⟩ = some (.int .u16 x3) := by
                    rw [(below_only HY.out.2.2.2.2.1 hg6 (by omega) (by omega)).cell (p := ⟨b3, o3 + i, none⟩) hbB]
                    exact HC3.out.1
                  have hch := HP.out w6 (u + 1) (by omega) (by omega) hm6 hg6
                  have HCH := Lib.hid hch
                  clear hch
                  clear hm6 hg6
                  have hny : (y1 == id) = false := by simp [hne]
                  go_wp2_with fail
                  refine HCH.out.mono ?_
                  rintro e w7 ⟨rfl, hr7⟩
                  have HR7 := Lib.hid hr7
                  clear hr7
                  clear c36 HCH
                  go_wp2_with fail
                  go_roundw
                  case rel =>
                    obtain ⟨f, cc, nn, h⟩ := HR7.out
                    exact ⟨i + 1, f, cc, nn, by go_num, h⟩
                  case measure => simp [intOf]; omega
                · go_wp2_with fail
                  refine HY.out.1.mono ?_
                  rintro e w6 ⟨rfl, hm6, hg6⟩
                  have hch := HP.out w6 1 (by omega) (by omega) hm6 hg6
                  have HCH := Lib.hid hch
                  clear hch
                  clear hm6 hg6
                  have hny : (y1 == id) = false := by simp [hne]
                  go_wp2_with fail
                  refine HCH.out.mono ?_
                  rintro e w7 ⟨rfl, hr7⟩
                  have HR7 := Lib.hid hr7
                  clear hr7
                  clear HCH
                  go_wp2_with fail
                  go_roundw
                  case rel =>
                    obtain ⟨f, cc, nn, h⟩ := HR7.out
                    exact ⟨i + 1, f, cc, nn, by go_num, h⟩
                  case measure => simp [intOf]; omega

end Go.Proofs.Ytdcdfhonkjmpeaa.PickWaits
