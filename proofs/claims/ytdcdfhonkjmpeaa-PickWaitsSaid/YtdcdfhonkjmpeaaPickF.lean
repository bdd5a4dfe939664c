import Derived.Test.YtdcdfhonkjmpeaaPickB
import Derived.WalkMore
namespace Go.Proofs.Ytdcdfhonkjmpeaa.Pick
open Go.ChangeShapes Go.WideShapes Go.ChangeAt Go.RowKit Go.Deep
set_option linter.unusedVariables false

abbrev Turn := Int × Int × Bool

/-- The slice value v reads as these turns. -/
def Turns (w : World) (v : Value) (T : List Turn) : Prop :=
  ∃ a c, v = .slice a T.length c ∧ T.length ≤ c ∧ (0 < T.length → ∃ b off, a = some ⟨b, off, none⟩ ∧ b < w.heap.size ∧
    ∀ (i : Nat) (t : Turn), T[i]? = some t → w.cell? ⟨b, off + i * 3, none⟩ = some (.int .i64 t.1) ∧ w.cell? ⟨b, off + i * 3 + 1, none⟩ = some (.int .i64 t.2.1) ∧ w.cell? ⟨b, off + i * 3 + 2, none⟩ = some (.bool t.2.2))

theorem Turns.keep {w w' : World} {v : Value} {T : List Turn} (h : Turns w v T) (hs : w.heap.size ≤ w'.heap.size) (hk : ∀ b, b < w.heap.size → (∃ i u, w.cell? ⟨b, i, none⟩ = some u) → w'.heap[b]? = w.heap[b]?) : Turns w' v T := by
  obtain ⟨a, c, h1, h2, h3⟩ := h
  refine ⟨a, c, h1, h2, fun h0 => ?_⟩
  obtain ⟨b, off, e, hb, hc⟩ := h3 h0
  have hx := hc 0 _ (List.getElem?_eq_getElem h0)
  have he := hk b hb ⟨_, _, hx.1⟩
  refine ⟨b, off, e, by omega, fun i t ht => ?_⟩
  have := hc i t ht
  rw [World.cell?_of_block (w' := w') (w := w) (a := ⟨b, off + i * 3, none⟩) he, World.cell?_of_block (w' := w') (w := w) (a := ⟨b, off + i * 3 + 1, none⟩) he, World.cell?_of_block (w' := w') (w := w) (a := ⟨b, off + i * 3 + 2, none⟩) he]
  exact this
theorem Turns.below {w w' : World} {v : Value} {T : List Turn} (h : Turns w v T) (hb : Below w.heap.size w w') : Turns w' v T := h.keep hb.size fun b hlt _ => hb.block b hlt
theorem Turns.grown {w w' : World} {v : Value} {T : List Turn} (h : Turns w v T) {mb n c : Nat} {f : Int → Int} (hm : MapIs w mb n f c) (hg : w.grownBy w' (some mb)) : Turns w' v T :=
  h.keep hg.size fun b hlt hc => hg.block b hlt fun e => by
    injection e with e
    subst e
    obtain ⟨i, u, hu⟩ := hc
    obtain ⟨D, ⟨es, clock, hh, _⟩, _⟩ := hm
    simp [World.cell?, hh] at hu
theorem MapIs.below {w w' : World} {b n c : Nat} {f : Int → Int} (h : MapIs w b n f c) (hb : Below w.heap.size w w') : MapIs w' b n f c := h.kept (row := none) (only_new hb none) (by simp)
theorem MapIs.lt {w : World} {b n c : Nat} {f : Int → Int} (h : MapIs w b n f c) : b < w.heap.size := by
  obtain ⟨D, ⟨es, clock, hh, _⟩, _⟩ := h
  exact lt_of_block hh

/-- The first one that has something left. -/
def firstOf (f : Int → Int) (T : List Turn) : Int × Bool := match T.find? (fun t => decide (1 ≤ f t.1)) with
  | some t => (t.1, true)
  | none => (0, false)

theorem first_skip {f : Int → Int} {T : List Turn} {j : Nat} {t : Turn} (ht : T[j]? = some t) (h1 : ∀ i u, i < j → T[i]? = some u → ¬ 1 ≤ f u.1) (h2 : 1 ≤ f t.1) : firstOf f T = (t.1, true) := by
  have hj : j < T.length := (List.getElem?_eq_some_iff.1 ht).1
  have : T.find? (fun t => decide (1 ≤ f t.1)) = some t := by
    rw [List.find?_eq_some_iff_getElem]
    refine ⟨by simp [h2], j, hj, (List.getElem?_eq_some_iff.1 ht).2, fun i hi => ?_⟩
    have := h1 i _ hi (List.getElem?_eq_getElem (by omega))
    simp; omega
  unfold firstOf
  rw [this]
theorem first_none {f : Int → Int} {T : List Turn} (h1 : ∀ (i : Nat) (u : Turn), i < T.length → T[i]? = some u → ¬ 1 ≤ f u.1) : firstOf f T = (0, false) := by
  have : T.find? (fun t => decide (1 ≤ f t.1)) = none := by
    rw [List.find?_eq_none]
    intro t ht
    obtain ⟨i, hi, e⟩ := List.getElem_of_mem ht
    have := h1 i _ hi (List.getElem?_eq_getElem hi)
    rw [e] at this
    simp; omega
  unfold firstOf
  rw [this]

set_option maxRecDepth 100000 in
set_option maxHeartbeats 3200000 in
theorem first_any (g mb n c : Nat) (f : Int → Int) (T : List Turn) (v : Value) (hw : ∀ t ∈ T, Wf t.1) (hT : T.length ≤ 1000000) (w : World) (h : Blk w g 97 #[.map (some mb)]) (hm : MapIs w mb n f c) (hv : Turns w v T) :
    Calls Try.prog 56 #[.pointer (some ⟨g, 0, none⟩), v] w fun e w' => e = .returned (.tuple #[.int .i64 (firstOf f T).1, .bool (firstOf f T).2]) ∧ Below w.heap.size w w' := by
  obtain ⟨a, cp, rfl, hcp, hv3⟩ := hv
  obtain ⟨N, hN⟩ : ∃ N, T.length = N := ⟨_, rfl⟩
  have hlt := h.lt
  have hrefl : Below w.heap.size w w := Below.refl _ _
  have HV := Lib.hid (And.intro hv3 (And.intro hw hN))
  clear hv3 hw
  rw [hN] at hT hcp ⊢
  clear hN
  have HM := Lib.hid hm
  have HH := Lib.hid h
  clear hm h
  go_enter Try.func56, Try.ntmps56
  go_wp2
  go_step3
  go_wp2
  go_step3
  go_wp2
  go_loopw [6, 7, 12] (fun x y i wr => ∃ j : Nat, j ≤ N ∧ i = .int .i64 j ∧ x = .int .i64 0 ∧ y = .bool false ∧ (∀ i u, i < j → T[i]? = some u → ¬ 1 ≤ f u.1) ∧ Below w.heap.size w wr) (fun _ _ i _ => N - (intOf i).toNat)
  case atStart => exact ⟨0, Nat.zero_le _, rfl, rfl, rfl, fun i u hi => by omega, hrefl⟩
  case round =>
    clear hrefl
    obtain ⟨j, hj, rfl, rfl, rfl, hno, hbel⟩ := hrel
    rcases (show j < N ∨ j = N by omega) with hjn | hjn
    · have hTl := HV.out.2.2
      obtain ⟨t, ht⟩ : ∃ t, T[j]? = some t := ⟨T[j]'(by omega), List.getElem?_eq_getElem _⟩
      obtain ⟨b, off, rfl, hb, hc⟩ := HV.out.1 (by omega)
      obtain ⟨q0, q1, q2⟩ := hc j t ht
      have hwt := HV.out.2.1 t (List.mem_of_getElem? ht)
      obtain ⟨ti, tw, tr⟩ := t
      rw [← hbel.cell (p := ⟨b, _, none⟩) hb] at q0 q1 q2
      have hkg := HH.out.below hbel hlt
      have hmm := HM.out.below hbel
      have hlr := hkg.lt
      have hsz := hbel.size
      clear hc hTl
      have HK := Lib.hid (And.intro hkg (And.intro hmm (And.intro hbel (And.intro hno (And.intro ht hwt)))))
      clear hkg hmm hbel hno ht hwt
      simp only at q0 q1 q2
      have hwa : Below w.heap.size w (wr.alloc (Obj.cells #[Value.int IntKind.i64 ti, Value.int IntKind.i64 tw, Value.bool tr] 62)) := HK.out.2.2.1.alloc (by omega) _
      have hcl : (wr.alloc (Obj.cells #[Value.int IntKind.i64 ti, Value.int IntKind.i64 tw, Value.bool tr] 62)).cell? ⟨wr.heap.size, 0, none⟩ = some (.int .i64 ti) := (Blk.new wr 62 _).cell 0
      have HWA := Lib.hid hwa
      clear hwa
      go_wp2_with fail
      refine (left_any g mb n c f ti HK.out.2.2.2.2.2 _ (HK.out.1.alloc _) (MapIs.below HK.out.2.1 ((Below.refl _ _).alloc (Nat.le_refl _) _))).mono ?_
      rintro e w4 ⟨rfl, rfl⟩
      obtain ⟨y, hy⟩ : ∃ y, f ti = y := ⟨_, rfl⟩
      have HY := Lib.hid hy
      rw [hy]
      clear hy
      by_cases h1 : y < 1
      · go_wp2_with fail
        go_roundw
        case rel => exact ⟨j + 1, by omega, by go_num, rfl, rfl, fun i u hi hu => by
          rcases (show i < j ∨ i = j by omega) with h2 | h2
          · have := HK.out.2.2.2.1 i u h2 hu
            omega
          · subst h2
            rw [HK.out.2.2.2.2.1] at hu
            injection hu with hu
            rw [← hu]
            show ¬ 1 ≤ f ti
            rw [HY.out]; omega, HWA.out⟩
        case measure => simp [intOf]; omega
      · have hfo : firstOf f T = (ti, true) := first_skip HK.out.2.2.2.2.1 (fun i u hi hu => by have := HK.out.2.2.2.1 i u hi hu; omega) (by show 1 ≤ f ti; rw [HY.out]; omega)
        have HFO := Lib.hid hfo
        clear hfo
        go_wp2_with fail
        try rw [Exit.noGoto_ret]
        go_ret2
        exact ⟨by rw [HFO.out]; rfl, HWA.out⟩
    · subst hjn
      have hfo : firstOf f T = (0, false) := first_none (fun i u hi hu => hno i u (by rw [HV.out.2.2] at hi; exact hi) hu)
      have HFO := Lib.hid hfo
      clear hfo
      have HBEL := Lib.hid hbel
      clear hbel
      clear hno
      go_wp2_with fail
      try rw [Exit.noGoto_ret]
      go_ret2
      exact ⟨by rw [HFO.out]; rfl, HBEL.out⟩

end Go.Proofs.Ytdcdfhonkjmpeaa.Pick
