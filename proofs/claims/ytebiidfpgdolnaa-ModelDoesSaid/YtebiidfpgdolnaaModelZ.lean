import Derived.Test.YtebiidfpgdolnaaModelO1
import Derived.Test.YtebiidfpgdolnaaModelO2
import Derived.Test.YtebiidfpgdolnaaModelO3
namespace Go.Proofs.Ytebiidfpgdolnaa.Model
open Go.ChangeShapes Go.WideShapes Go.ChangeAt Go.RowKit Go.Deep
set_option linter.unusedVariables false
open Go.Lib
set_option linter.unusedSimpArgs false

theorem offm (g lo : Nat) {t : St} {m : Nat} (hm : m ≤ 100) (h : Inv t m) (s : ByteArray) (w : World) (hF : FlowAt w g lo t) (hl : lo ≤ w.heap.size) :
    Calls Try.prog 17 #[.pointer (some ⟨g, 0, none⟩), .string s] w fun f w' => f = .returned (.tuple #[.int .i64 (offerOf t s).2.1, .int .i64 (offerOf t s).2.2]) ∧ FlowAt w' g lo (offerOf t s).1 ∧ w.grownBy w' (some g) :=
  offer_any g lo t h.hk s (by have := h.hW; omega) h.hc0 h.hc1 (fun hk => (h.h1 hk).2.2) h.hs ⟨h.ha.1, by have := h.ha.2; omega⟩ ⟨h.hd.1, by have := h.hd.2; omega⟩ w hF hl
theorem offr (u x lo : Nat) {t : St} {m : Nat} (hm : m ≤ 100) (h : Inv t m) (s : ByteArray) (w : World) (hF : RefF w u x lo t) (hl : lo ≤ w.heap.size) :
    Calls Try.prog 27 #[.pointer (some ⟨u, 0, none⟩), .string s] w fun f w' => f = .returned (.tuple #[.int .i64 (offerOf t s).2.1, .int .i64 (offerOf t s).2.2]) ∧ RefF w' u x lo (offerOf t s).1 ∧ Dual w w' u x :=
  refoffer_any u x lo t h.hk s (by have := h.hW; omega) h.hc0 h.hc1 (fun hk => (h.h1 hk).2.2) ⟨h.ha.1, by have := h.ha.2; omega⟩ ⟨h.hd.1, by have := h.hd.2; omega⟩ w hF hl

theorem do_any (g u x lo : Nat) {t : St} {m : Nat} (hm : m ≤ 100) (hI : Inv t m) (K N : Int) (s : ByteArray) (e : Bool) (w : World) (hr : Ready w g u x lo t) :
    Calls Try.prog 8 #[.pointer (some ⟨g, 0, none⟩), .pointer (some ⟨x, 0, none⟩), .agg #[.int .i64 K, .int .i64 N, .string s, .bool e]] w (Both g u x lo (stepOf t K N s e) w) := by
  unfold stepOf
  by_cases h3 : K = 3
  · rw [if_pos h3]
    subst h3
    by_cases hN : N.tmod 4 = 0
    · rw [if_pos hN]
      exact do_3yes g u x lo t N hN s e w hr
    · rw [if_neg hN]
      exact do_3no g u x lo t N hN s e w hr
  rw [if_neg h3]
  by_cases h4 : K = 4
  · rw [if_pos h4]
    subst h4
    exact do_4 g u x lo t _ N s e _ (sentm g lo hm hI s e) (sentr u x lo hm hI s e) w hr
  rw [if_neg h4]
  by_cases h5 : K = 5 ∨ K = 6
  · rw [if_pos h5]
    exact do_56 g u x lo t _ hI.hk K N h5 s e _ _ _ rfl (sentm g lo hm hI _ _) (sentr u x lo hm hI _ _) w hr
  rw [if_neg h5]
  by_cases h7 : K = 7
  · rw [if_pos h7]
    subst h7
    exact do_7 g u x lo t _ N s e _ (camem g lo hm hI s e) (camer u x lo hm hI s e) w hr
  rw [if_neg h7]
  by_cases h8 : K = 8 ∨ K = 9
  · rw [if_pos h8]
    cases hw : t.way with
    | nil => exact do_89n g u x lo t K N h8 s e hw w hr
    | cons p r => exact do_89 g u x lo t _ K N h8 s e p.1 p.2 _ r hw (camem g lo hm hI p.1 p.2) (camer u x lo hm hI p.1 p.2) w hr
  rw [if_neg h8]
  by_cases h10 : K = 10
  · rw [if_pos h10]
    subst h10
    exact do_10 g u x lo m t hm hI N s e w hr
  rw [if_neg h10]
  by_cases h11 : K = 11
  · rw [if_pos h11]
    subst h11
    cases hV : t.V with
    | nil => exact do_11no g u x lo t hV N s e w hr
    | cons a r => exact do_11yes g u x lo m t hm hI a r hV N s e w hr
  rw [if_neg h11]
  exact do_off g u x lo t _ K N ⟨h3, h4, fun h => h5 (.inl h), fun h => h5 (.inr h), h7, fun h => h8 (.inl h), fun h => h8 (.inr h), h10, h11⟩ s e _ _ (offm g lo hm hI s) (offr u x lo hm hI s) w hr

theorem Ready.six {w : World} {g u x lo : Nat} {t : St} (h : Ready w g u x lo t) :
    w.cell? ⟨x, 0, none⟩ = some (.pointer (some ⟨u, 0, none⟩)) ∧ w.cell? ⟨u, 7, none⟩ = some (.bool t.ou) ∧ w.cell? ⟨u, 8, none⟩ = some (.int .i64 t.ac) ∧ w.cell? ⟨u, 10, none⟩ = some (.int .i64 t.dr) ∧ w.cell? ⟨x, 4, none⟩ = some (.bool t.ca) ∧ w.cell? ⟨x, 5, none⟩ = some (.int .i64 t.tl) := by
  obtain ⟨-, -, -, vL, vY, vV, hu, hx, -, -, -⟩ := h.ref
  exact ⟨hx.cell 0, hu.cell 7, hu.cell 8, hu.cell 10, hx.cell 4, hx.cell 5⟩

theorem sent_k (t : St) (s : ByteArray) (e : Bool) : (sentOf t s e).k = t.k := by
  unfold sentOf
  split
  · rfl
  · rfl
theorem came_k (t : St) (s : ByteArray) (e : Bool) : (cameOf t s e).k = t.k := by
  unfold cameOf
  split
  · rfl
  · rfl
theorem item_k (t : St) (s : ByteArray) : (itemOf t s).1.k = t.k := by
  unfold itemOf
  split
  · rfl
  split
  · rfl
  split
  · rfl
  split
  · rfl
  · rfl
theorem offer_k (t : St) (s : ByteArray) : (offerOf t s).1.k = t.k := by
  unfold offerOf
  split
  · rfl
  split
  · rfl
  · exact item_k t s
theorem step_k (t : St) (K N : Int) (s : ByteArray) (e : Bool) : (stepOf t K N s e).k = t.k := by
  unfold stepOf
  split
  · split
    · rfl
    · rfl
  split
  · exact sent_k _ _ _
  split
  · exact sent_k _ _ _
  split
  · exact came_k _ _ _
  split
  · split
    · rfl
    · exact came_k _ _ _
  split
  · rfl
  split
  · split
    · rfl
    · rfl
  exact offer_k _ _

theorem tri_below {B : Nat} {w w0 w' : World} (hb : Below B w w0) (h : Tri w0 w' (B + 1) (B + 2) (B + 3)) (hs : B ≤ w0.heap.size) : Below B w w' :=
  ⟨h.1.trans hb.os, h.2.1.trans hb.tape, h.2.2.1.trans hb.output, Nat.le_trans hb.size h.2.2.2.1, fun i hi => (h.2.2.2.2 i (by omega) (by omega) (by omega) (by omega)).trans (hb.block i hi)⟩

end Go.Proofs.Ytebiidfpgdolnaa.Model
