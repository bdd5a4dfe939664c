import Derived.Test.YtdcdfhonkjmpeaaPickPlain
namespace Go.Proofs.Ytdcdfhonkjmpeaa.Pick
open Go.ChangeShapes Go.WideShapes Go.ChangeAt Go.RowKit Go.Deep
set_option linter.unusedVariables false

/-- The slice value v reads as these items; they lie not in block x. -/
def Its (w : World) (x : Nat) (v : Value) (L : List (Int × Int)) : Prop :=
  ∃ a c, v = .slice a L.length c ∧ L.length ≤ c ∧ (0 < L.length → ∃ b off, a = some ⟨b, off, none⟩ ∧ b < w.heap.size ∧ b ≠ x ∧
    ∀ (i : Nat) (p : Int × Int), L[i]? = some p → w.cell? ⟨b, off + i * 2, none⟩ = some (.int .i64 p.1) ∧ w.cell? ⟨b, off + i * 2 + 1, none⟩ = some (.int .i64 p.2))
def RefAt (w : World) (x : Nat) (L : List (Int × Int)) : Prop := ∃ v, Blk w x 80 #[v] ∧ Its w x v L

theorem Its.keep {w w' : World} {x : Nat} {v : Value} {L : List (Int × Int)} (h : Its w x v L) (hs : w.heap.size ≤ w'.heap.size) (hk : ∀ b, b < w.heap.size → b ≠ x → (∃ i u, w.cell? ⟨b, i, none⟩ = some u) → w'.heap[b]? = w.heap[b]?) : Its w' x v L := by
  obtain ⟨a, c, h1, h2, h3⟩ := h
  refine ⟨a, c, h1, h2, fun h0 => ?_⟩
  obtain ⟨b, off, e, hb, hx, hc⟩ := h3 h0
  have hx0 := hc 0 _ (List.getElem?_eq_getElem h0)
  have he := hk b hb hx ⟨_, _, hx0.1⟩
  refine ⟨b, off, e, by omega, hx, fun i t ht => ?_⟩
  have := hc i t ht
  rw [World.cell?_of_block (w' := w') (w := w) (a := ⟨b, off + i * 2, none⟩) he, World.cell?_of_block (w' := w') (w := w) (a := ⟨b, off + i * 2 + 1, none⟩) he]
  exact this
theorem RefAt.lt {w : World} {x : Nat} {L : List (Int × Int)} (h : RefAt w x L) : x < w.heap.size := by
  obtain ⟨v, h1, _⟩ := h
  exact h1.lt
theorem RefAt.below {w w' : World} {x : Nat} {L : List (Int × Int)} (h : RefAt w x L) (hb : Below w.heap.size w w') : RefAt w' x L := by
  obtain ⟨v, h1, h2⟩ := h
  exact ⟨v, h1.below hb h1.lt, h2.keep hb.size fun b hlt _ _ => hb.block b hlt⟩
theorem RefAt.grown {w w' : World} {x : Nat} {L : List (Int × Int)} (h : RefAt w x L) {mb n c : Nat} {f : Int → Int} (hm : MapIs w mb n f c) (hg : w.grownBy w' (some mb)) : RefAt w' x L := by
  obtain ⟨v, h1, h2⟩ := h
  have hno : ∀ b i u, w.cell? ⟨b, i, none⟩ = some u → b ≠ mb := by
    intro b i u hu e
    subst e
    obtain ⟨D, ⟨es, clock, hh, _⟩, _⟩ := hm
    simp [World.cell?, hh] at hu
  refine ⟨v, h1.grown hg (fun e => ?_), h2.keep hg.size fun b hlt _ ⟨i, u, hu⟩ => hg.block b hlt fun e => ?_⟩
  · injection e with e
    exact hno x 0 v (h1.cell 0) e
  · injection e with e
    exact hno b i u hu e
theorem RefAt.not_map {w : World} {x : Nat} {L : List (Int × Int)} (h : RefAt w x L) {mb n c : Nat} {f : Int → Int} (hm : MapIs w mb n f c) : mb ≠ x := by
  obtain ⟨v, h1, h2⟩ := h
  intro e
  subst e
  have hu := h1.cell 0
  obtain ⟨D, ⟨es, clock, hh, _⟩, _⟩ := hm
  simp [World.cell?, hh] at hu

theorem ofL_at {L : List (Int × Int)} {j : Nat} {p : Int × Int} (hp : L[j]? = some p) (h1 : ∀ (i : Nat) (q : Int × Int), i < j → L[i]? = some q → q.1 ≠ p.1) : ofL L p.1 = p.2 := by
  induction L generalizing j with
  | nil => simp at hp
  | cons q L ih =>
    rw [ofL_cons]
    cases j with
    | zero => simp at hp; subst hp; rw [if_pos rfl]
    | succ j =>
      rw [if_neg (h1 0 q (by omega) rfl)]
      exact ih (by simpa using hp) fun i r hi hr => h1 (i + 1) r (by omega) (by simpa using hr)
theorem ofL_none {L : List (Int × Int)} {i : Int} (h1 : ∀ (k : Nat) (q : Int × Int), k < L.length → L[k]? = some q → q.1 ≠ i) : ofL L i = 0 := by
  refine ofL_skip fun h => ?_
  obtain ⟨p, hp, e⟩ := List.mem_map.1 h
  obtain ⟨k, hk, e2⟩ := List.getElem_of_mem hp
  exact h1 k p hk (by rw [List.getElem?_eq_getElem hk, e2]) e

set_option maxRecDepth 100000 in
theorem of_any (x : Nat) (L : List (Int × Int)) (i : Int) (w : World) (hL : L.length ≤ 1000000) (h : RefAt w x L) :
    Calls Try.prog 40 #[.pointer (some ⟨x, 0, none⟩), .int .i64 i] w fun e w' => e = .returned (.int .i64 (ofL L i)) ∧ w = w' := by
  obtain ⟨v, hx, a, cp, rfl, hcp, hv⟩ := h
  obtain ⟨N, hN⟩ : ∃ N, L.length = N := ⟨_, rfl⟩
  have c0 := hx.cell 0
  rw [hN] at hL hcp c0
  have c0 : w.cell? ⟨x, 0, none⟩ = some (.slice a N cp) := c0
  have HV := Lib.hid (And.intro hv hN)
  clear hv hN hx
  go_enter Try.func40, Try.ntmps40
  go_wp2_with fail
  go_loopw [5] (fun k wr => ∃ j : Nat, j ≤ N ∧ k = .int .i64 j ∧ wr = w ∧ (∀ (k : Nat) (q : Int × Int), k < j → L[k]? = some q → q.1 ≠ i)) (fun k _ => N - (intOf k).toNat)
  case atStart => exact ⟨0, Nat.zero_le _, rfl, rfl, fun k q hk => by omega⟩
  case round =>
    obtain ⟨j, hj, rfl, rfl, hno⟩ := hrel
    rcases (show j < N ∨ j = N by omega) with hjn | hjn
    · have hNl := HV.out.2
      obtain ⟨p, hp⟩ : ∃ p, L[j]? = some p := ⟨L[j]'(by omega), List.getElem?_eq_getElem _⟩
      obtain ⟨b, off, rfl, hb, hbx, hc⟩ := HV.out.1 (by omega)
      obtain ⟨q0, q1⟩ := hc j p hp
      have HK := Lib.hid (And.intro hno hp)
      clear hc hNl hno hp
      obtain ⟨p1, p2⟩ := p
      simp only at q0 q1
      by_cases he : p1 = i
      · subst he
        have hr : ofL L p1 = p2 := ofL_at HK.out.2 HK.out.1
        have HR := Lib.hid hr
        clear hr
        go_wp2_with fail
        go_ret
        exact ⟨by rw [HR.out]; rfl, rfl⟩
      · go_wp2_with fail
        go_roundw
        case rel => exact ⟨j + 1, by omega, by go_num, (by first | rfl | trivial), fun k q hk hq => by
          rcases (show k < j ∨ k = j by omega) with h2 | h2
          · exact HK.out.1 k q h2 hq
          · subst h2
            rw [HK.out.2] at hq
            injection hq with hq
            rw [← hq]
            exact he⟩
        case measure => simp [intOf]; omega
    · subst hjn
      have hr : ofL L i = 0 := ofL_none fun k q hk hq => hno k q (by rw [HV.out.2] at hk; exact hk) hq
      have HR := Lib.hid hr
      clear hr
      clear hno
      go_wp2_with fail
      go_ret
      exact ⟨by rw [HR.out]; rfl, rfl⟩

end Go.Proofs.Ytdcdfhonkjmpeaa.Pick
