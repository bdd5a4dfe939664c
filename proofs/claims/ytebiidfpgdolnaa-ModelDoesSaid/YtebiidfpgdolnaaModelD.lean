import Derived.Test.YtebiidfpgdolnaaModelC
namespace Go.Proofs.Ytebiidfpgdolnaa.Model
open Go.ChangeShapes Go.WideShapes Go.ChangeAt Go.RowKit Go.Deep
set_option linter.unusedVariables false
open Go.Lib
set_option linter.unusedSimpArgs false

/-! Flows as plain states. -/
structure St where
  k : Int
  c : Int
  s : Int
  W : List ByteArray
  y : ByteArray
  way : List (ByteArray × Bool)
  V : List ByteArray
  z : ByteArray
  en : Bool
  ou : Bool
  ca : Bool
  ac : Int
  dr : Int
  tl : Int

def strs (l : List ByteArray) : List Value := l.map fun x => .string x
def bits (l : List (ByteArray × Bool)) : List Value := l.flatMap fun p => [.string p.1, .bool p.2]
theorem strs_length (l : List ByteArray) : (strs l).length = l.length * 1 := by simp [strs]
theorem bits_length (l : List (ByteArray × Bool)) : (bits l).length = l.length * 2 := by
  induction l with
  | nil => rfl
  | cons p l ih => show (bits l).length + 2 = _; rw [ih, List.length_cons]; omega
theorem strs_append (a b : List ByteArray) : strs (a ++ b) = strs a ++ strs b := by simp [strs]
theorem bits_append (a b : List (ByteArray × Bool)) : bits (a ++ b) = bits a ++ bits b := by simp [bits]
theorem strs_at {l : List ByteArray} {i : Nat} {x : ByteArray} (h : l[i]? = some x) : (strs l)[i]? = some (.string x) := by simp [strs, h]
theorem bits_at {l : List (ByteArray × Bool)} {i : Nat} {p : ByteArray × Bool} (h : l[i]? = some p) : (bits l)[i * 2]? = some (.string p.1) ∧ (bits l)[i * 2 + 1]? = some (.bool p.2) := by
  induction l generalizing i with
  | nil => simp at h
  | cons q l ih =>
    cases i with
    | zero => simp at h; subst h; exact ⟨rfl, rfl⟩
    | succ i =>
      have := ih (i := i) (by simpa using h)
      have e : (i + 1) * 2 = i * 2 + 2 := by omega
      rw [e]
      exact this

/-- The slice value v reads as these cells, n elements of 'size' cells each, in a block from lo on. -/
def RdL (w : World) (lo size : Nat) (v : Value) (n : Nat) (xs : List Value) : Prop :=
  ∃ ao cap, v = .slice ao n cap ∧ n ≤ cap ∧ xs.length = n * size ∧ (ao = none → n = 0 ∧ cap = 0) ∧
    ∀ b, ao = some b → b.spot = none ∧ lo ≤ b.block ∧ b.block < w.heap.size ∧ ∀ j u, xs[j]? = some u → w.cell? (b.add j) = some u

section
variable {w w' : World} {lo size n : Nat} {v : Value} {xs : List Value}
theorem RdL.nil (w : World) (lo size : Nat) : RdL w lo size (.slice none 0 0) 0 [] := ⟨none, 0, rfl, Nat.le_refl _, by simp, fun _ => ⟨rfl, rfl⟩, fun b hb => by cases hb⟩
theorem RdL.rd {g : Nat} (h : RdL w lo size v n xs) (hg : g < lo) : Rd w g size v n xs := by
  obtain ⟨ao, cap, h1, h2, h3, h4, h5⟩ := h
  exact ⟨ao, cap, h1, h2, h3, h4, fun b hb => ⟨(h5 b hb).1, by have := (h5 b hb).2.1; omega, (h5 b hb).2.2⟩⟩
theorem RdL.keep (h : RdL w lo size v n xs) (hs : w.heap.size ≤ w'.heap.size) (hk : ∀ i, i < w.heap.size → lo ≤ i → w'.heap[i]? = w.heap[i]?) : RdL w' lo size v n xs := by
  obtain ⟨ao, cap, h1, h2, h3, h4, h5⟩ := h
  refine ⟨ao, cap, h1, h2, h3, h4, fun b hb => ?_⟩
  obtain ⟨k1, k2, k3, k4⟩ := h5 b hb
  refine ⟨k1, k2, by omega, fun j u hu => ?_⟩
  rw [← k4 j u hu]
  exact World.cell?_of_block (by rw [add_block]; exact hk _ k3 k2)
theorem RdL.grown {g : Nat} (h : RdL w lo size v n xs) (hg : w.grownBy w' (some g)) (hl : g < lo) : RdL w' lo size v n xs := h.keep hg.size fun i hi hn => hg.block i hi (fun e => by injection e; omega)
theorem RdL.below (h : RdL w lo size v n xs) (hb : Below w.heap.size w w') : RdL w' lo size v n xs := h.keep hb.size fun i hi _ => hb.block i hi
theorem RdL.owned {base : Nat} {e : TypeId} (h : w.ownsRow base e size v n xs) (hb : lo ≤ base) : RdL w lo size v n xs := by
  obtain ⟨h1, h2⟩ := h
  rcases h2 with ⟨rfl, rfl⟩ | ⟨b, cap, cur, rfl, h4, h5, h6, h7, h8, h9⟩
  · exact ⟨none, 0, rfl, Nat.le_refl _, h1, fun _ => ⟨rfl, rfl⟩, fun b hb => by cases hb⟩
  · refine ⟨_, cap, rfl, h6, h1, (fun e => by cases e), fun b' hb' => ?_⟩
    injection hb' with hb'
    subst hb'
    refine ⟨rfl, by simp; omega, lt_of_block h5, fun j u hu => ?_⟩
    exact World.ownsRow.cells (v := .slice (some ⟨b, 0, none⟩) n cap) ⟨h1, .inr ⟨b, cap, cur, rfl, h4, h5, h6, h7, h8, h9⟩⟩ rfl j u hu
theorem RdL.tail {h off cap : Nat} (hr : RdL w lo size (.slice (some ⟨h, off, none⟩) n cap) n xs) (hn : 0 < n) :
    RdL w lo size (.slice (if cap = 1 then some ⟨h, off, none⟩ else some ⟨h, off + size, none⟩) (n - 1) (cap - 1)) (n - 1) (xs.drop size) := by
  obtain ⟨ao, cap', h1, h2, h3, h4, h5⟩ := hr
  injection h1 with h1 _ h7
  subst h1 h7
  have hl : (xs.drop size).length = (n - 1) * size := by
    rw [List.length_drop, h3]
    obtain ⟨m, rfl⟩ : ∃ m, n = m + 1 := ⟨n - 1, by omega⟩
    rw [Nat.add_sub_cancel, Nat.add_mul, Nat.one_mul, Nat.add_sub_cancel]
  obtain ⟨k1, k2, k3, k4⟩ := h5 _ rfl
  by_cases hc : cap = 1
  · rw [if_pos hc]
    refine ⟨_, _, rfl, by omega, hl, (fun e => by cases e), fun b hb => ?_⟩
    injection hb with hb
    subst hb
    refine ⟨k1, k2, k3, fun j u hu => ?_⟩
    have : (xs.drop size).length = 0 := by rw [hl, show n - 1 = 0 by omega, Nat.zero_mul]
    rw [List.eq_nil_of_length_eq_zero this] at hu
    simp at hu
  · rw [if_neg hc]
    refine ⟨_, _, rfl, by omega, hl, (fun e => by cases e), fun b hb => ?_⟩
    injection hb with hb
    subst hb
    refine ⟨rfl, k2, k3, fun j u hu => ?_⟩
    rw [List.getElem?_drop] at hu
    have := k4 _ u hu
    rw [Addr.add_lit] at this ⊢
    rw [← this]
    congr 2
    omega
theorem RdL.some_of (h : RdL w lo size v n xs) (hn : 0 < n) : ∃ b off cap, v = .slice (some ⟨b, off, none⟩) n cap ∧ n ≤ cap ∧ lo ≤ b ∧ b < w.heap.size ∧ ∀ j u, xs[j]? = some u → w.cell? ⟨b, off + j, none⟩ = some u := by
  obtain ⟨ao, cap, rfl, h2, h3, h4, h5⟩ := h
  cases ao with
  | none => have := (h4 rfl).1; omega
  | some p =>
    obtain ⟨k1, k2, k3, k4⟩ := h5 p rfl
    obtain ⟨b, off, spot⟩ := p
    have hs : spot = none := k1
    subst hs
    exact ⟨b, off, cap, rfl, h2, k2, k3, fun j u hu => by have := k4 j u hu; rw [Addr.add_lit] at this; exact this⟩
theorem RdL.cap_of (h : RdL w lo size v n xs) : ∃ ao cap, v = .slice ao n cap ∧ n ≤ cap ∧ (ao = none → n = 0 ∧ cap = 0) ∧ ∀ b, ao = some b → ∀ j u, xs[j]? = some u → w.cell? (b.add j) = some u := by
  obtain ⟨ao, cap, rfl, h2, h3, h4, h5⟩ := h
  exact ⟨ao, cap, rfl, h2, h4, fun b hb => (h5 b hb).2.2.2⟩
end

/-- The flow in block g is this state; its rows lie from lo on. -/
def FlowAt (w : World) (g lo : Nat) (t : St) : Prop :=
  g < lo ∧ ∃ vw vy vt, Blk w g 56 (fl t.k t.c t.s vw t.y vy vt t.z t.en t.ou t.ca t.ac t.dr t.tl) ∧ RdL w lo 1 vw t.W.length (strs t.W) ∧ RdL w lo 2 vy t.way.length (bits t.way) ∧ RdL w lo 1 vt t.V.length (strs t.V)

section
variable {w w' : World} {g lo : Nat} {t : St}
theorem FlowAt.below (h : FlowAt w g lo t) (hb : Below w.heap.size w w') : FlowAt w' g lo t := by
  obtain ⟨h0, vw, vy, vt, h1, h2, h3, h4⟩ := h
  exact ⟨h0, vw, vy, vt, h1.below hb h1.lt, h2.below hb, h3.below hb, h4.below hb⟩
theorem FlowAt.lt (h : FlowAt w g lo t) : g < w.heap.size := by
  obtain ⟨h0, vw, vy, vt, h1, _⟩ := h
  exact h1.lt
end

/-- What may be sent next. -/
def okNext (t : St) (x : ByteArray) (e : Bool) : Bool :=
  if t.k = 1 then fitsB t.y x t.en e else if e then decide (x = ⟨#[]⟩) && t.W.isEmpty && t.en else decide (t.W.head? = some x)

set_option maxRecDepth 100000 in
set_option maxHeartbeats 3200000 in
theorem next_items (g lo : Nat) (c s : Int) (W : List ByteArray) (vw : Value) (y : ByteArray) (vy vt : Value) (z : ByteArray) (en ou ca : Bool) (ac dr tl : Int) (x : ByteArray) (e r : Bool)
    (hr : r = if e then decide (x = ⟨#[]⟩) && W.isEmpty && en else decide (W.head? = some x)) (w : World) (h : Blk w g 56 (fl 2 c s vw y vy vt z en ou ca ac dr tl)) (hW : RdL w lo 1 vw W.length (strs W)) :
    Calls Try.prog 31 #[.pointer (some ⟨g, 0, none⟩), .string x, .bool e] w fun f w' => f = .returned (.bool r) ∧ w = w' := by
  have c0 : w.cell? ⟨g, 0, none⟩ = some (.int .i64 2) := h.cell 0
  have c8 : w.cell? ⟨g, 8, none⟩ = some (.bool en) := h.cell 8
  have c3 : w.cell? ⟨g, 3, none⟩ = some vw := h.cell 3
  cases W with
  | nil =>
    obtain ⟨ao, cap, rfl, _⟩ := hW.cap_of
    have c3 : w.cell? ⟨g, 3, none⟩ = some (.slice ao 0 cap) := c3
    have HR := Lib.hid hr
    clear hr
    clear hW h
    cases e with
    | false =>
      obtain rfl : r = false := by rw [HR.out]; simp
      go_enter Try.func31, Try.ntmps31
      go_wp2
      go_ret
      exact ⟨rfl, rfl⟩
    | true =>
      by_cases hx : x = ⟨#[]⟩
      · subst hx
        obtain rfl : r = en := by rw [HR.out]; simp
        have hl : (⟨#[]⟩ : ByteArray).toList = [] := (nil_iff _).2 rfl
        go_enter Try.func31, Try.ntmps31
        go_wp2
        all_goals
          go_ret
          exact ⟨rfl, rfl⟩
      · obtain rfl : r = false := by rw [HR.out]; simp [hx]
        have hl : ¬ x.toList = [] := fun e => hx ((nil_iff _).1 e)
        go_enter Try.func31, Try.ntmps31
        go_wp2
        go_ret
        exact ⟨rfl, rfl⟩
  | cons a W =>
    obtain ⟨b, off, cap, rfl, hcap, hb1, hb2, hc⟩ := hW.some_of (by simp)
    have d0 : w.cell? ⟨b, off, none⟩ = some (.string a) := hc 0 _ rfl
    have hlen : (a :: W).length = W.length + 1 := rfl
    obtain ⟨n, hn⟩ : ∃ n, (a :: W).length = n := ⟨_, rfl⟩
    rw [hn] at c3 hcap hlen
    have hn1 : (0 : Int) < (n : Int) := by omega
    have hn0 : ¬ (n : Int) = 0 := by omega
    have hnb : ((n : Int) == 0) = false := by simp; omega
    have HR := Lib.hid hr
    clear hr
    clear hW h hc hn
    cases e with
    | false =>
      by_cases hx : a = x
      · subst hx
        obtain rfl : r = true := by rw [HR.out]; simp
        go_enter Try.func31, Try.ntmps31
        go_wp2
        go_ret
        exact ⟨rfl, rfl⟩
      · obtain rfl : r = false := by rw [HR.out]; simp [hx]
        have hl : ¬ a.toList = x.toList := fun e => hx ((list_iff _ _).1 e)
        have hlb : (a.toList == x.toList) = false := by simp [hl]
        go_enter Try.func31, Try.ntmps31
        go_wp2
        go_ret
        exact ⟨rfl, rfl⟩
    | true =>
      obtain rfl : r = false := by rw [HR.out]; simp
      by_cases hx : x = ⟨#[]⟩
      · subst hx
        have hl : (⟨#[]⟩ : ByteArray).toList = [] := (nil_iff _).2 rfl
        go_enter Try.func31, Try.ntmps31
        go_wp2
        go_ret
        exact ⟨rfl, rfl⟩
      · have hl : ¬ x.toList = [] := fun e => hx ((nil_iff _).1 e)
        go_enter Try.func31, Try.ntmps31
        go_wp2
        go_ret
        exact ⟨rfl, rfl⟩

end Go.Proofs.Ytebiidfpgdolnaa.Model
