import Derived.Test.YtmjkfiadbllkfaaQue
namespace Go.Proofs.Ytmjkfiadbllkfaa.LifeSides
open Go.ChangeShapes Go.WideShapes Go.ChangeAt Go.RowKit Go.Deep
set_option linter.unusedVariables false
open Life LifeLaws Sides

theorem info3 : (Try.prog.info? 3).map (fun i => (i.zero, i.size, i.bytes)) = some (some (.int .i64 0), 1, 8) := by kernel_rfl
theorem und56 : Try.prog.underlying 56 = some (.slice 3) := by kernel_rfl

theorem one_cell {w : World} {g : Nat} {t : TypeId} {v : Value} (h : Blk w g t #[v]) : ∀ j u, [v][j]? = some u → w.cell? ((⟨g, 0, none⟩ : Addr).add j) = some u := by
  intro j u hu
  match j, hu with
  | 0, hu =>
    have h2 : some v = some u := by simpa using hu
    rw [← h2]
    exact h.cell 0

structure S (w0 : World) (B : Nat) (a b : Int) (P Q : List Int) (p q : Value) (w : World) : Prop where
  ha : Blk w B 91 #[.int .i64 a]
  hb : Blk w (B + 1) 91 #[.int .i64 b]
  hp : Que w (B + 2) p P
  hq : Que w (B + 2) q Q
  ne : p.ownBlock ≠ q.ownBlock
  below : Below B w0 w

section
variable {w0 w w' : World} {B : Nat} {a b z : Int} {P Q : List Int} {p q : Value}
theorem S.size (h : S w0 B a b P Q p q w) : B + 2 ≤ w.heap.size := by have := h.hb.lt; omega
theorem S.evA (h : S w0 B a b P Q p q w) {a' : Int} (hk : Blk w' B 91 #[.int .i64 a']) (hg : w.grownBy w' (some B)) : S w0 B a' b P Q p q w' := by
  obtain ⟨k1, e1, e2, e3⟩ := h.hp.lt
  obtain ⟨k2, f1, f2, f3⟩ := h.hq.lt
  have hs := h.size
  refine ⟨hk, h.hb.grown hg (by simp), h.hp.kept hg (by rw [e1]; simp; omega), h.hq.kept hg (by rw [f1]; simp; omega), h.ne, below_only h.below hg (Nat.le_refl _) (by omega)⟩
theorem S.evB (h : S w0 B a b P Q p q w) {b' : Int} (hk : Blk w' (B + 1) 91 #[.int .i64 b']) (hg : w.grownBy w' (some (B + 1))) : S w0 B a b' P Q p q w' := by
  obtain ⟨k1, e1, e2, e3⟩ := h.hp.lt
  obtain ⟨k2, f1, f2, f3⟩ := h.hq.lt
  have hs := h.size
  refine ⟨h.ha.grown hg (by simp), hk, h.hp.kept hg (by rw [e1]; simp; omega), h.hq.kept hg (by rw [f1]; simp; omega), h.ne, below_only h.below hg (by omega) (by omega)⟩
theorem S.pushP (h : S w0 B a b P Q p q w) (ob : Obj) {v : Value} (hv : Que w' (B + 2) v (P ++ [z])) (hg : (w.alloc ob).grownBy w' p.ownBlock) (hor : v.ownBlock = p.ownBlock ∨ ∃ k, v.ownBlock = some k ∧ (w.alloc ob).heap.size ≤ k) : S w0 B a b (P ++ [z]) Q v q w' := by
  obtain ⟨k1, e1, e2, e3⟩ := h.hp.lt
  obtain ⟨k2, f1, f2, f3⟩ := h.hq.lt
  have hs := h.size
  have hn := h.ne
  rw [e1] at hg hor hn
  rw [f1] at hn
  refine ⟨(h.ha.alloc ob).grown hg (by simp; omega), (h.hb.alloc ob).grown hg (by simp; omega), hv, (h.hq.alloc ob).kept hg (by rw [f1]; exact fun e => hn e.symm), ?_, (h.below.alloc (by omega) ob).grown hg (by simp; omega) (fun k hk => by injection hk with hk; omega)⟩
  rw [f1]
  rcases hor with e | ⟨k, e, hk⟩
  · rw [e]; exact hn
  · rw [e]; intro e'; injection e' with e'; simp at hk; omega
theorem S.pushQ (h : S w0 B a b P Q p q w) (ob : Obj) {v : Value} (hv : Que w' (B + 2) v (Q ++ [z])) (hg : (w.alloc ob).grownBy w' q.ownBlock) (hor : v.ownBlock = q.ownBlock ∨ ∃ k, v.ownBlock = some k ∧ (w.alloc ob).heap.size ≤ k) : S w0 B a b P (Q ++ [z]) p v w' := by
  obtain ⟨k1, e1, e2, e3⟩ := h.hp.lt
  obtain ⟨k2, f1, f2, f3⟩ := h.hq.lt
  have hs := h.size
  have hn := h.ne
  rw [f1] at hg hor hn
  rw [e1] at hn
  refine ⟨(h.ha.alloc ob).grown hg (by simp; omega), (h.hb.alloc ob).grown hg (by simp; omega), (h.hp.alloc ob).kept hg (by rw [e1]; exact hn), hv, ?_, (h.below.alloc (by omega) ob).grown hg (by simp; omega) (fun k hk => by injection hk with hk; omega)⟩
  rw [e1]
  rcases hor with e | ⟨k, e, hk⟩
  · rw [e]; exact hn
  · rw [e]; intro e'; injection e' with e'; simp at hk; omega
theorem own_ite {c g off : Nat} {n m : Nat} : (Value.slice (if c = 1 then some (⟨g, off, none⟩ : Addr) else some ⟨g, off + 1, none⟩) n m).ownBlock = some g := by split <;> rfl
theorem S.popP {g off n cap : Nat} {x : Int} (h : S w0 B a b (x :: P) Q (.slice (some ⟨g, off, none⟩) n cap) q w) : S w0 B a b P Q (.slice (if cap = 1 then some ⟨g, off, none⟩ else some ⟨g, off + 1, none⟩) (n - 1) (cap - 1)) q w :=
  ⟨h.ha, h.hb, h.hp.tail, h.hq, by rw [own_ite]; exact h.ne, h.below⟩
theorem S.popQ {g off n cap : Nat} {x : Int} (h : S w0 B a b P (x :: Q) p (.slice (some ⟨g, off, none⟩) n cap) w) : S w0 B a b P Q p (.slice (if cap = 1 then some ⟨g, off, none⟩ else some ⟨g, off + 1, none⟩) (n - 1) (cap - 1)) w :=
  ⟨h.ha, h.hb, h.hp, h.hq.tail, by rw [own_ite]; exact h.ne, h.below⟩
end

theorem sm {a b : Int} {P Q : List Int} (h : (a, b, P, Q) ∈ reach) : 0 ≤ a ∧ a ≤ 4 ∧ 0 ≤ b ∧ b ≤ 4 ∧ P.length ≤ 3 ∧ Q.length ≤ 3 := by
  have := reach_small _ h
  simp [small] at this
  omega

theorem fold_range (P : List Int) : ∀ (b : Int), 0 ≤ b → b ≤ 4 → ∀ {k : Nat}, 0 ≤ (P.take k).foldl evs b ∧ (P.take k).foldl evs b ≤ 4 := by
  induction P with
  | nil => intro b h0 h1 k; simp; exact ⟨h0, h1⟩
  | cons x P ih =>
    intro b h0 h1 k
    cases k with
    | zero => simp; exact ⟨h0, h1⟩
    | succ k =>
      have := evs_range b x h0 h1
      exact ih _ this.1 this.2
theorem fold_next (P : List Int) (b : Int) (k : Nat) (y : Int) (hy : P[k]? = some y) : (P.take (k + 1)).foldl evs b = evs ((P.take k).foldl evs b) y := by
  rw [List.take_add_one, hy, List.foldl_append]
  rfl

set_option maxRecDepth 100000 in
set_option maxHeartbeats 12800000 in
theorem walk (w : World) (A : Option Addr) (n c : Nat) (hn : n ≤ c) (hc : c ≤ maxLen) (he : Elems w A n [IsInt .u8]) :
    Calls Try.prog 10 #[.slice A n c] w fun e w' => e = .returned (.bool true) ∧ Below w.heap.size w w' := by
  clear hc
  have HE := Lib.hid he
  clear he
  obtain ⟨i3, hi3, hz0, hz1, hz2⟩ := info_parts info3
  obtain ⟨B, hB⟩ : ∃ g, w.heap.size = g := ⟨_, rfl⟩
  have hb0 : Below B w w := Below.refl _ _
  have hs0 : B ≤ w.heap.size := by omega
  have HG := Lib.hid hB
  clear hB
  go_enter Try.func10, Try.ntmps10
  go_wp2_with fail
  refine (new_any _).mono ?_
  rintro e w1 ⟨rfl, hw1⟩
  rw [HG.out]
  have hk1 : Blk w1 B 91 #[.int .i64 0] := by rw [hw1, ← HG.out]; exact Blk.new _ _ _
  have hb1 : Below B w w1 := by rw [hw1]; exact hb0.alloc hs0 _
  have hs1 : w1.heap.size = B + 1 := by rw [hw1, ← HG.out]; simp
  clear hw1
  go_wp2_with fail
  refine (new_any _).mono ?_
  rintro e w2 ⟨rfl, hw2⟩
  rw [hs1]
  have hk2 : Blk w2 B 91 #[.int .i64 0] := by rw [hw2]; exact hk1.alloc _
  have hx2 : Blk w2 (B + 1) 91 #[.int .i64 0] := by rw [hw2, ← hs1]; exact Blk.new _ _ _
  have hb2 : Below B w w2 := by rw [hw2]; exact hb1.alloc (by omega) _
  have hs2 : w2.heap.size = B + 2 := by rw [hw2]; simp [hs1]
  clear hw2 hk1 hb1 hs1
  go_wp2_with fail
  refine (awake_any _).mono ?_
  rintro e w3 ⟨rfl, hm3⟩
  have hk3 := hk2.below hm3 hk2.lt
  have hx3 := hx2.below hm3 hx2.lt
  have hb3 := hb2.trans (hm3.mono (by omega))
  have hs3 : B + 2 ≤ w3.heap.size := by have := hm3.size; omega
  clear hk2 hx2 hb2 hs2 hm3
  have HK3 := Lib.hid hk3
  clear hk3
  go_wp2_with fail
  refine (event_any B 0 0 0 1 rfl rfl (by decide) (by decide) _ HK3.out).mono ?_
  rintro e w4 ⟨rfl, hk4, hg4⟩
  have hx4 := hx3.grown hg4 (by simp)
  have hb4 := below_only hb3 hg4 (Nat.le_refl _) (by omega)
  have hs4 : B + 2 ≤ w4.heap.size := Nat.le_trans hs3 hg4.size
  clear hx3 hb3 hs3 hg4 HK3
  have hS : S w B 1 0 [1] [] (.slice (some ⟨w4.heap.size, 0, none⟩) 1 1) (.slice (some ⟨w4.heap.size + 1, 0, none⟩) 0 0) ((w4.alloc (.cells #[.int .i64 1] 3)).alloc (.cells #[] 3)) := by
    have hA := Blk.new w4 3 #[.int .i64 1]
    have hB := Blk.new (w4.alloc (.cells #[.int .i64 1] 3)) 3 #[]
    have hsz : (w4.alloc (.cells #[.int .i64 1] 3)).heap.size = w4.heap.size + 1 := by simp
    rw [hsz] at hB
    refine ⟨(hk4.alloc _).alloc _, (hx4.alloc _).alloc _, ⟨w4.heap.size, 0, 1, #[.int .i64 1], rfl, hs4, hA.alloc _, by simp, by simp, fun j x hx => ?_⟩, ⟨w4.heap.size + 1, 0, 0, #[], rfl, by omega, hB, by simp, by simp, fun j x hx => by simp at hx⟩, by simp [Value.ownBlock], (hb4.alloc (by omega) _).alloc (by simp; omega) _⟩
    match j, hx with
    | 0, hx => simp at hx; subst hx; rfl
  have HS := Lib.hid hS
  clear hS
  clear hk4 hx4 hb4 hs4
  go_wp2_with fail
  generalize ((w4.alloc (Obj.cells #[Value.int IntKind.i64 1] 3)).alloc (Obj.cells #[] 3)) = w5 at *
  go_loopw [5, 6, 7] (fun p q i wr => ∃ (j : Nat) (a b : Int) (P Q : List Int), j ≤ n ∧ j ≤ 200 ∧ i = .int .i64 j ∧ (a, b, P, Q) ∈ reach ∧ S w B a b P Q p q wr) (fun _ _ i _ => n - (intOf i).toNat)
  case atStart => exact ⟨0, 1, 0, [1], [], Nat.zero_le _, Nat.zero_le _, rfl, by decide, HS.out⟩
  case round =>
    clear HS hb0 hs0
    obtain ⟨j, a, b, P, Q, hj, hj200, rfl, hre, hS⟩ := hrel
    have hin : j < n ∧ j < 200 ∨ ¬ (j < n ∧ j < 200) := by omega
    obtain ⟨ga, oa, ca, rfl, hca, hcella⟩ := hS.hp.cell
    obtain ⟨gb, ob, cb, rfl, hcb, hcellb⟩ := hS.hq.cell
    obtain ⟨ha0, ha1, hb0, hb1, hp3, hq3⟩ := sm hre
    have hstep := fun r hr => reach_step _ hre r hr
    rcases hin with ⟨hlt, h200⟩ | hout
    · obtain ⟨bb, off, rfl, hbw, hcell⟩ := HE.out (by omega)
      obtain ⟨v0, c0, x, rfl, wx⟩ := hcell j hlt 0 _ rfl
      clear hcell
      rw [← hS.below.cell (p := ⟨bb, _, none⟩) (by rw [← HG.out]; exact hbw)] at c0
      have d0 : wr.cell? ⟨bb, off + j, none⟩ = some (.int .u8 x) := by simpa using c0
      have hxb := bounds_u8 wx
      have hsz := hS.size
      clear c0 wx hbw hre
      have HS := Lib.hid hS
      clear hS
      have HST := Lib.hid hstep
      clear hstep
      obtain ⟨r, hr⟩ : ∃ r, x.tmod 6 = r := ⟨_, rfl⟩
      have hrb : 0 ≤ r ∧ r < 6 := by
        rw [← hr]
        exact ⟨Int.tmod_nonneg _ hxb.1, Int.tmod_lt_of_pos _ (by decide)⟩
      have hr6 : r = 0 ∨ r = 1 ∨ r = 2 ∨ r = 3 ∨ r = 4 ∨ r = 5 := by omega
      have hr2 : IntKind.u8.wrap r = r := IntWalk.u8_in _ (by omega)
      clear hxb hrb
      rcases hr6 with rfl | rfl | rfl | rfl | rfl | rfl
      · clear hcella hcellb
        obtain ⟨y, hy⟩ : ∃ y, y = evc a 2 := ⟨_, rfl⟩
        obtain ⟨z, hz⟩ : ∃ z, z = evs a 2 := ⟨_, rfl⟩
        have HYZ := Lib.hid (And.intro hy hz)
        clear hy hz
        go_wp2_with fail
        refine (event_any B a 2 y z HYZ.out.1 HYZ.out.2 ha0 ha1 _ HS.out.ha).mono ?_
        rintro e w6 ⟨rfl, hk6, hg6⟩
        have hS6 := HS.out.evA hk6 hg6
        have hsz6 := hS6.size
        clear hk6 hg6 d0
        have HS6 := Lib.hid hS6
        clear hS6
        by_cases hy0 : y = 0
        · subst hy0
          go_wp2_with (at_builtin; refine wpList_append_que rfl _ _ 56 rfl i3 und56 hi3 hz0 hz1 hz2 (B + 2) _ P rfl (HS6.out.hp.alloc _) 3 ⟨w6.heap.size, 0, none⟩ 1 rfl (one_cell (Blk.new w6 3 _)) (by omega) (by simp; omega) ?_)
          intro v' w7 hq7 hg7 hor7
          have hS7 := HS6.out.pushP _ hq7 hg7 (by simpa using hor7)
          have HS7 := Lib.hid hS7
          clear hS7
          clear hq7 hg7 hor7
          go_wp2_with fail
          go_roundw
          case rel => exact ⟨j + 1, z, b, P ++ [3], Q, by omega, by omega, by go_num, by
            have : (evs a 2, b, if evc a 2 = 0 then P ++ [3] else P, Q) ∈ reach := HST.out 0 (by decide)
            rw [← HYZ.out.1, ← HYZ.out.2, if_pos rfl] at this
            exact this, HS7.out⟩
          case measure => simp [intOf]; omega
        · go_wp2_with fail
          go_roundw
          case rel => exact ⟨j + 1, z, b, P, Q, by omega, by omega, by go_num, by
            have : (evs a 2, b, if evc a 2 = 0 then P ++ [3] else P, Q) ∈ reach := HST.out 0 (by decide)
            rw [← HYZ.out.1, ← HYZ.out.2, if_neg hy0] at this
            exact this, HS6.out⟩
          case measure => simp [intOf]; omega
      · clear hcella hcellb
        obtain ⟨y, hy⟩ : ∃ y, y = evc a 4 := ⟨_, rfl⟩
        obtain ⟨z, hz⟩ : ∃ z, z = evs a 4 := ⟨_, rfl⟩
        have HYZ := Lib.hid (And.intro hy hz)
        clear hy hz
        go_wp2_with fail
        refine (event_any B a 4 y z HYZ.out.1 HYZ.out.2 ha0 ha1 _ HS.out.ha).mono ?_
        rintro e w6 ⟨rfl, hk6, hg6⟩
        have hS6 := HS.out.evA hk6 hg6
        have hsz6 := hS6.size
        clear hk6 hg6 d0
        have HS6 := Lib.hid hS6
        clear hS6
        by_cases hy0 : y = 0
        · subst hy0
          go_wp2_with (at_builtin; refine wpList_append_que rfl _ _ 56 rfl i3 und56 hi3 hz0 hz1 hz2 (B + 2) _ P rfl (HS6.out.hp.alloc _) 5 ⟨w6.heap.size, 0, none⟩ 1 rfl (one_cell (Blk.new w6 3 _)) (by omega) (by simp; omega) ?_)
          intro v' w7 hq7 hg7 hor7
          have hS7 := HS6.out.pushP _ hq7 hg7 (by simpa using hor7)
          have HS7 := Lib.hid hS7
          clear hS7
          clear hq7 hg7 hor7
          go_wp2_with fail
          go_roundw
          case rel => exact ⟨j + 1, z, b, P ++ [5], Q, by omega, by omega, by go_num, by
            have : (evs a 4, b, if evc a 4 = 0 then P ++ [5] else P, Q) ∈ reach := HST.out 1 (by decide)
            rw [← HYZ.out.1, ← HYZ.out.2, if_pos rfl] at this
            exact this, HS7.out⟩
          case measure => simp [intOf]; omega
        · go_wp2_with fail
          go_roundw
          case rel => exact ⟨j + 1, z, b, P, Q, by omega, by omega, by go_num, by
            have : (evs a 4, b, if evc a 4 = 0 then P ++ [5] else P, Q) ∈ reach := HST.out 1 (by decide)
            rw [← HYZ.out.1, ← HYZ.out.2, if_neg hy0] at this
            exact this, HS6.out⟩
          case measure => simp [intOf]; omega
      · clear hcella hcellb
        obtain ⟨y, hy⟩ : ∃ y, y = evc b 2 := ⟨_, rfl⟩
        obtain ⟨z, hz⟩ : ∃ z, z = evs b 2 := ⟨_, rfl⟩
        have HYZ := Lib.hid (And.intro hy hz)
        clear hy hz
        go_wp2_with fail
        refine (event_any (B + 1) b 2 y z HYZ.out.1 HYZ.out.2 hb0 hb1 _ HS.out.hb).mono ?_
        rintro e w6 ⟨rfl, hk6, hg6⟩
        have hS6 := HS.out.evB hk6 hg6
        have hsz6 := hS6.size
        clear hk6 hg6 d0
        have HS6 := Lib.hid hS6
        clear hS6
        by_cases hy0 : y = 0
        · subst hy0
          go_wp2_with (at_builtin; refine wpList_append_que rfl _ _ 56 rfl i3 und56 hi3 hz0 hz1 hz2 (B + 2) _ Q rfl (HS6.out.hq.alloc _) 3 ⟨w6.heap.size, 0, none⟩ 1 rfl (one_cell (Blk.new w6 3 _)) (by omega) (by simp; omega) ?_)
          intro v' w7 hq7 hg7 hor7
          have hS7 := HS6.out.pushQ _ hq7 hg7 (by simpa using hor7)
          have HS7 := Lib.hid hS7
          clear hS7
          clear hq7 hg7 hor7
          go_wp2_with fail
          go_roundw
          case rel => exact ⟨j + 1, a, z, P, Q ++ [3], by omega, by omega, by go_num, by
            have : (a, evs b 2, P, if evc b 2 = 0 then Q ++ [3] else Q) ∈ reach := HST.out 2 (by decide)
            rw [← HYZ.out.1, ← HYZ.out.2, if_pos rfl] at this
            exact this, HS7.out⟩
          case measure => simp [intOf]; omega
        · go_wp2_with fail
          go_roundw
          case rel => exact ⟨j + 1, a, z, P, Q, by omega, by omega, by go_num, by
            have : (a, evs b 2, P, if evc b 2 = 0 then Q ++ [3] else Q) ∈ reach := HST.out 2 (by decide)
            rw [← HYZ.out.1, ← HYZ.out.2, if_neg hy0] at this
            exact this, HS6.out⟩
          case measure => simp [intOf]; omega
      · clear hcella hcellb
        obtain ⟨y, hy⟩ : ∃ y, y = evc b 4 := ⟨_, rfl⟩
        obtain ⟨z, hz⟩ : ∃ z, z = evs b 4 := ⟨_, rfl⟩
        have HYZ := Lib.hid (And.intro hy hz)
        clear hy hz
        go_wp2_with fail
        refine (event_any (B + 1) b 4 y z HYZ.out.1 HYZ.out.2 hb0 hb1 _ HS.out.hb).mono ?_
        rintro e w6 ⟨rfl, hk6, hg6⟩
        have hS6 := HS.out.evB hk6 hg6
        have hsz6 := hS6.size
        clear hk6 hg6 d0
        have HS6 := Lib.hid hS6
        clear hS6
        by_cases hy0 : y = 0
        · subst hy0
          go_wp2_with (at_builtin; refine wpList_append_que rfl _ _ 56 rfl i3 und56 hi3 hz0 hz1 hz2 (B + 2) _ Q rfl (HS6.out.hq.alloc _) 5 ⟨w6.heap.size, 0, none⟩ 1 rfl (one_cell (Blk.new w6 3 _)) (by omega) (by simp; omega) ?_)
          intro v' w7 hq7 hg7 hor7
          have hS7 := HS6.out.pushQ _ hq7 hg7 (by simpa using hor7)
          have HS7 := Lib.hid hS7
          clear hS7
          clear hq7 hg7 hor7
          go_wp2_with fail
          go_roundw
          case rel => exact ⟨j + 1, a, z, P, Q ++ [5], by omega, by omega, by go_num, by
            have : (a, evs b 4, P, if evc b 4 = 0 then Q ++ [5] else Q) ∈ reach := HST.out 3 (by decide)
            rw [← HYZ.out.1, ← HYZ.out.2, if_pos rfl] at this
            exact this, HS7.out⟩
          case measure => simp [intOf]; omega
        · go_wp2_with fail
          go_roundw
          case rel => exact ⟨j + 1, a, z, P, Q, by omega, by omega, by go_num, by
            have : (a, evs b 4, P, if evc b 4 = 0 then Q ++ [5] else Q) ∈ reach := HST.out 3 (by decide)
            rw [← HYZ.out.1, ← HYZ.out.2, if_neg hy0] at this
            exact this, HS6.out⟩
          case measure => simp [intOf]; omega
      · rcases P with _ | ⟨y, P⟩
        · clear hcella hcellb
          go_wp2_with fail
          go_roundw
          case rel => exact ⟨j + 1, a, b, [], Q, by omega, by omega, by go_num, by
            have : (a, b, [], Q) ∈ reach := by exact HST.out 4 (by decide)
            exact this, HS.out⟩
          case measure => simp [intOf]; omega
        · have e0 : wr.cell? ⟨ga, oa, none⟩ = some (.int .i64 y) := by simpa using hcella 0 y rfl
          clear hcella hcellb
          obtain ⟨u, hu⟩ : ∃ u, u = evc b y := ⟨_, rfl⟩
          obtain ⟨z, hz⟩ : ∃ z, z = evs b y := ⟨_, rfl⟩
          have HYZ := Lib.hid (And.intro hu hz)
          clear hu hz
          have hcap1 : (1 : Int) ≤ (ca : Int) := by simp at hca; omega
          have hl1 : (1 : Int) ≤ (P.length : Int) + 1 := by omega
          simp only [List.length_cons] at hp3 hq3 hca hcb
          go_wp2_with fail
          refine (event_any (B + 1) b y u z HYZ.out.1 HYZ.out.2 hb0 hb1 _ HS.out.hb).mono ?_
          rintro e w6 ⟨rfl, hk6, hg6⟩
          have hS6 := (HS.out.evB hk6 hg6).popP
          clear hk6 hg6 d0 e0
          have HS6 := Lib.hid hS6
          clear hS6
          go_wp2_with fail
          go_roundw
          case rel => exact ⟨j + 1, a, z, P, Q, by omega, by omega, by go_num, by
            have : (a, evs b y, P, Q) ∈ reach := by exact HST.out 4 (by decide)
            rw [← HYZ.out.2] at this
            exact this, by simpa using HS6.out⟩
          case measure => simp [intOf]; omega
      · rcases Q with _ | ⟨y, Q⟩
        · clear hcella hcellb
          go_wp2_with fail
          go_roundw
          case rel => exact ⟨j + 1, a, b, P, [], by omega, by omega, by go_num, by
            have : (a, b, P, []) ∈ reach := by cases P <;> exact HST.out 5 (by decide)
            exact this, HS.out⟩
          case measure => simp [intOf]; omega
        · have e0 : wr.cell? ⟨gb, ob, none⟩ = some (.int .i64 y) := by simpa using hcellb 0 y rfl
          clear hcella hcellb
          obtain ⟨u, hu⟩ : ∃ u, u = evc a y := ⟨_, rfl⟩
          obtain ⟨z, hz⟩ : ∃ z, z = evs a y := ⟨_, rfl⟩
          have HYZ := Lib.hid (And.intro hu hz)
          clear hu hz
          have hcap1 : (1 : Int) ≤ (cb : Int) := by simp at hcb; omega
          have hl1 : (1 : Int) ≤ (Q.length : Int) + 1 := by omega
          simp only [List.length_cons] at hp3 hq3 hca hcb
          go_wp2_with fail
          refine (event_any B a y u z HYZ.out.1 HYZ.out.2 ha0 ha1 _ HS.out.ha).mono ?_
          rintro e w6 ⟨rfl, hk6, hg6⟩
          have hS6 := (HS.out.evA hk6 hg6).popQ
          clear hk6 hg6 d0 e0
          have HS6 := Lib.hid hS6
          clear hS6
          go_wp2_with fail
          go_roundw
          case rel => exact ⟨j + 1, z, b, P, Q, by omega, by omega, by go_num, by
            have : (evs a y, b, P, Q) ∈ reach := by cases P <;> exact HST.out 5 (by decide)
            rw [← HYZ.out.2] at this
            exact this, by simpa using HS6.out⟩
          case measure => simp [intOf]; omega
    · have hfin := reach_final _ hre
      have hfin2 : ∀ a' b' : Int, a' = Q.foldl evs a → b' = P.foldl evs b → (a' = 1 ∧ b' = 1) ∨ (a' = 4 ∧ b' = 4) ∨ (a' = 2 ∧ b' = 3) ∨ (a' = 3 ∧ b' = 2) := by
        rintro a' b' rfl rfl
        simp [final] at hfin
        omega
      have HFIN := Lib.hid hfin2
      have HSTART : Hid (S w B a ((P.take 0).foldl evs b) P Q _ _ wr) := hS
      clear hfin hfin2 hcella hcellb hstep hre
      have hio : (j < n ∧ ¬ j < 200) ∨ ¬ j < n := by omega
      clear hout hS
      rcases hio with ⟨hlt, h200⟩ | hlt
      all_goals
        go_wp2_with fail
        go_loopw [8] (fun i wr => ∃ (k : Nat), k ≤ P.length ∧ i = .int .i64 k ∧ S w B a ((P.take k).foldl evs b) P Q (.slice (some ⟨ga, oa, none⟩) P.length ca) (.slice (some ⟨gb, ob, none⟩) Q.length cb) wr) (fun i _ => P.length - (intOf i).toNat)
        case atStart => exact ⟨0, Nat.zero_le _, rfl, HSTART.out⟩
        case round =>
          clear HSTART
          obtain ⟨k, hk, rfl, hS⟩ := hrel
          have hin : k < P.length ∨ k = P.length := by omega
          rcases hin with hkl | hkl
          · obtain ⟨y, hy⟩ : ∃ y, P[k]? = some y := ⟨P[k], List.getElem?_eq_getElem hkl⟩
            obtain ⟨g1, o1, c1, e1, _, hc1⟩ := hS.hp.cell
            injection e1 with e1 _ e3
            injection e1 with e1
            injection e1 with e1 e4 _
            subst e1 e3 e4
            have e0 := hc1 k y hy
            obtain ⟨z0, hz0'⟩ : ∃ z0, z0 = (P.take k).foldl evs b := ⟨_, rfl⟩
            rw [← hz0'] at hS
            have hzr : 0 ≤ z0 ∧ z0 ≤ 4 := by rw [hz0']; exact fold_range _ _ hb0 hb1
            have hnx : (P.take (k + 1)).foldl evs b = evs z0 y := by rw [hz0']; exact fold_next _ _ _ _ hy
            obtain ⟨hzr0, hzr1⟩ := hzr
            have hsz := hS.size
            obtain ⟨u, hu⟩ : ∃ u, u = evc z0 y := ⟨_, rfl⟩
            have HNX := Lib.hid (And.intro hnx hu)
            clear hc1 hy hz0' hnx hu
            have HS := Lib.hid hS
            clear hS
            go_wp2_with fail
            refine (event_any (B + 1) z0 y u (evs z0 y) HNX.out.2 rfl hzr0 hzr1 _ HS.out.hb).mono ?_
            rintro e w6 ⟨rfl, hk6, hg6⟩
            have hS6 := HS.out.evB hk6 hg6
            rw [← HNX.out.1] at hS6
            clear hk6 hg6 e0
            have HS6 := Lib.hid hS6
            clear hS6
            go_wp2_with fail
            go_roundw
            case rel => exact ⟨k + 1, by omega, by go_num, HS6.out⟩
            case measure => simp [intOf]; omega
          · subst hkl
            rw [List.take_length] at hS
            obtain ⟨b', hb'⟩ : ∃ b', b' = P.foldl evs b := ⟨_, rfl⟩
            rw [← hb'] at hS
            have HBB := Lib.hid hb'
            have HSTART : Hid (S w B ((Q.take 0).foldl evs a) b' P Q _ _ wr) := hS
            clear hS hb'
            go_wp2_with fail
            go_loopw [9] (fun i wr => ∃ (k : Nat), k ≤ Q.length ∧ i = .int .i64 k ∧ S w B ((Q.take k).foldl evs a) b' P Q (.slice (some ⟨ga, oa, none⟩) P.length ca) (.slice (some ⟨gb, ob, none⟩) Q.length cb) wr) (fun i _ => Q.length - (intOf i).toNat)
            case atStart => exact ⟨0, Nat.zero_le _, rfl, HSTART.out⟩
            case round =>
              clear HSTART
              obtain ⟨k, hk, rfl, hS⟩ := hrel
              have hin : k < Q.length ∨ k = Q.length := by omega
              rcases hin with hkl | hkl
              · obtain ⟨y, hy⟩ : ∃ y, Q[k]? = some y := ⟨Q[k], List.getElem?_eq_getElem hkl⟩
                obtain ⟨g1, o1, c1, e1, _, hc1⟩ := hS.hq.cell
                injection e1 with e1 _ e3
                injection e1 with e1
                injection e1 with e1 e4 _
                subst e1 e3 e4
                have e0 := hc1 k y hy
                obtain ⟨z0, hz0'⟩ : ∃ z0, z0 = (Q.take k).foldl evs a := ⟨_, rfl⟩
                rw [← hz0'] at hS
                have hzr : 0 ≤ z0 ∧ z0 ≤ 4 := by rw [hz0']; exact fold_range _ _ ha0 ha1
                have hnx : (Q.take (k + 1)).foldl evs a = evs z0 y := by rw [hz0']; exact fold_next _ _ _ _ hy
                obtain ⟨hzr0, hzr1⟩ := hzr
                have hsz := hS.size
                obtain ⟨u, hu⟩ : ∃ u, u = evc z0 y := ⟨_, rfl⟩
                have HNX := Lib.hid (And.intro hnx hu)
                clear hc1 hy hz0' hnx hu
                have HS := Lib.hid hS
                clear hS
                go_wp2_with fail
                refine (event_any B z0 y u (evs z0 y) HNX.out.2 rfl hzr0 hzr1 _ HS.out.ha).mono ?_
                rintro e w6 ⟨rfl, hk6, hg6⟩
                have hS6 := HS.out.evA hk6 hg6
                rw [← HNX.out.1] at hS6
                clear hk6 hg6 e0
                have HS6 := Lib.hid hS6
                clear hS6
                go_wp2_with fail
                go_roundw
                case rel => exact ⟨k + 1, by omega, by go_num, HS6.out⟩
                case measure => simp [intOf]; omega
              · subst hkl
                rw [List.take_length] at hS
                obtain ⟨a', ha'⟩ : ∃ a', a' = Q.foldl evs a := ⟨_, rfl⟩
                rw [← ha'] at hS
                have hab := HFIN.out a' b' ha' HBB.out
                clear ha'
                have HS := Lib.hid hS
                clear hS
                rcases hab with ⟨rfl, rfl⟩ | ⟨rfl, rfl⟩ | ⟨rfl, rfl⟩ | ⟨rfl, rfl⟩
                all_goals
                  go_wp2_with fail
                  refine (state_any B _ _ HS.out.ha).mono ?_
                  rintro e wx ⟨rfl, rfl⟩
                  go_wp2_with fail
                  refine (state_any (B + 1) _ _ HS.out.hb).mono ?_
                  rintro e wx ⟨rfl, rfl⟩
                  go_wp2_with fail
                  go_ret
                  exact ⟨rfl, HG.out ▸ HS.out.below⟩

end Go.Proofs.Ytmjkfiadbllkfaa.LifeSides
