import Derived.Test.YtdcdfhonkjmpeaaChunkKeep
namespace Go.Proofs.Ytdcdfhonkjmpeaa.Chunk
open Go.ChangeShapes Go.WideShapes Go.ChangeAt Go.RowKit Go.Deep
set_option linter.unusedVariables false
open Go.Lib

/-- The joiner in block g: what is kept, how much may be, whether it is broken. -/
def Joi (w : World) (g : Nat) (k : List UInt8) (m : Int) (b : Bool) : Prop :=
  ∃ x, Blk w g 90 #[x, .int .i64 m, .bool b] ∧ w.ownsRow (g + 1) 5 1 x k.length (cellsB k)

/-- What has turned: the joiner in block g, and bytes behind it. -/
structure Same (w w' : World) (g : Nat) : Prop where
  os : w'.os = w.os
  tape : w'.tape = w.tape
  output : w'.output = w.output
  size : w.heap.size ≤ w'.heap.size
  block : ∀ i, i < w.heap.size → i ≠ g → (i < g ∨ ∀ cs, w.heap[i]? ≠ some (.cells cs 5 (0, 0))) → w'.heap[i]? = w.heap[i]?

theorem Same.of_grown {w w' : World} {g : Nat} (h : w.grownBy w' (some g)) : Same w w' g :=
  ⟨h.os, h.tape, h.output, h.size, fun i hi hne _ => h.block i hi (fun e => hne (by injection e))⟩
theorem Same.of_below {w w' : World} {g : Nat} (h : Below w.heap.size w w') : Same w w' g :=
  ⟨h.os, h.tape, h.output, h.size, fun i hi _ _ => h.block i hi⟩
theorem Same.below {w0 w w' : World} {g : Nat} (hb : Below g w0 w) (h : Same w w' g) (hs : g ≤ w.heap.size) : Below g w0 w' :=
  ⟨h.os.trans hb.os, h.tape.trans hb.tape, h.output.trans hb.output, Nat.le_trans hb.size h.size, fun i hi => (h.block i (by omega) (by omega) (.inl hi)).trans (hb.block i hi)⟩

theorem Joi.lt {w : World} {g : Nat} {k : List UInt8} {m : Int} {b : Bool} (h : Joi w g k m b) : g < w.heap.size := h.choose_spec.1.lt
theorem Joi.below {w w' : World} {g : Nat} {k : List UInt8} {m : Int} {b : Bool} (h : Joi w g k m b) (hb : Below w.heap.size w w') : Joi w' g k m b := by
  obtain ⟨x, h1, h2⟩ := h
  exact ⟨x, h1.below hb h1.lt, h2.kept (row := none) (only_new hb none) (by cases x.ownBlock <;> simp)⟩
theorem Joi.drewN {w : World} {g : Nat} {k : List UInt8} {m : Int} {b : Bool} (h : Joi w g k m b) (n : Nat) : Joi (w.drewN n) g k m b := h
theorem Joi.new (w : World) (m : Int) : Joi (w.alloc (.cells #[.slice none 0 0, .int .i64 m, .bool false] 90)) w.heap.size [] m false :=
  ⟨_, Blk.new w _ _, World.ownsRow_nil _ _ _ _⟩

section
variable (g : Nat) (k : List UInt8) (m : Int) (s : ByteArray) (w : World)

theorem joi_broken (h : Joi w g k m true) :
    Calls Try.prog 21 #[.pointer (some ⟨g, 0, none⟩), .string s] w fun r w' => r = .returned (.tuple #[.string ⟨#[]⟩, .bool false, .int .i64 11]) ∧ Joi w' g k m true ∧ Same w w' g := by
  obtain ⟨x, h1, h2⟩ := h
  refine (add_broken g x m w s h1).mono ?_
  rintro e w' ⟨rfl, hb⟩
  exact ⟨rfl, Joi.below ⟨x, h1, h2⟩ hb, .of_below hb⟩

theorem joi_form (hf : s.data.toList = [] ∨ ∃ c rest, s.data.toList = c :: rest ∧ 1 < c.toNat) (h : Joi w g k m false) :
    Calls Try.prog 21 #[.pointer (some ⟨g, 0, none⟩), .string s] w fun r w' => r = .returned (.tuple #[.string ⟨#[]⟩, .bool false, .int .i64 6]) ∧ Joi w' g [] m true ∧ Same w w' g := by
  obtain ⟨x, h1, h2⟩ := h
  rcases hf with hf | ⟨c, rest, hf, hc⟩
  · obtain rfl : s = ⟨#[]⟩ := by
      rw [← bytes_mk s, hf]
    refine (add_empty g x m w h1).mono ?_
    rintro e w' ⟨rfl, hk, hg⟩
    exact ⟨rfl, ⟨_, hk, World.ownsRow_nil _ _ _ _⟩, .of_grown hg⟩
  · obtain rfl : s = ⟨(c :: rest).toArray⟩ := by
      rw [← bytes_mk s, hf]
    refine (add_form g x m w c rest hc h1).mono ?_
    rintro e w' ⟨rfl, hk, hg⟩
    exact ⟨rfl, ⟨_, hk, World.ownsRow_nil _ _ _ _⟩, .of_grown hg⟩

theorem joi_big (c : UInt8) (rest : List UInt8) (hs : s.data.toList = c :: rest) (hc : ¬ 1 < c.toNat) (hm0 : 0 ≤ m) (hm1 : m ≤ 65536) (hn : (k.length : Int) ≤ m) (hr : rest.length ≤ 281474976710656) (hbig : m - (k.length : Int) < (rest.length : Int)) (h : Joi w g k m false) :
    Calls Try.prog 21 #[.pointer (some ⟨g, 0, none⟩), .string s] w fun r w' => r = .returned (.tuple #[.string ⟨#[]⟩, .bool false, .int .i64 4]) ∧ Joi w' g [] m true ∧ Same w w' g := by
  obtain ⟨x, h1, h2⟩ := h
  obtain rfl : s = ⟨(c :: rest).toArray⟩ := by
    rw [← bytes_mk s, hs]
  obtain ⟨a, cap, rfl⟩ : ∃ a cap, x = .slice a k.length cap := by
    rcases h2.2 with ⟨h1, h2⟩ | ⟨gg, cap, cur, h1, _⟩
    · exact ⟨none, 0, by rw [h1, h2]⟩
    · exact ⟨_, cap, h1⟩
  refine (add_big g m w c rest k.length cap a hc hm0 hm1 hn hr hbig h1).mono ?_
  rintro e w' ⟨rfl, hk, hg⟩
  exact ⟨rfl, ⟨_, hk, World.ownsRow_nil _ _ _ _⟩, .of_grown hg⟩

theorem joi_keep (c : UInt8) (rest : List UInt8) (last : Bool) (hs : s.data.toList = c :: rest) (hla : c.toNat = (if last then 0 else 1)) (hm1 : m ≤ 65536) (hfit : ¬ m - (k.length : Int) < (rest.length : Int)) (h : Joi w g k m false) :
    Calls Try.prog 21 #[.pointer (some ⟨g, 0, none⟩), .string s] w fun r w' => r = .returned (.tuple #[.string (if last then ⟨(k ++ rest).toArray⟩ else ⟨#[]⟩), .bool last, .int .i64 0]) ∧ Joi w' g (if last then [] else k ++ rest) m false ∧ Same w w' g := by
  obtain ⟨x, h1, h2⟩ := h
  obtain rfl : s = ⟨(c :: rest).toArray⟩ := by
    rw [← bytes_mk s, hs]
  have hlt := h1.lt
  have hc : ¬ 1 < c.toNat := by rw [hla]; split <;> omega
  refine (add_keep g x m w c rest k (g + 1) last hc hla hm1 hfit h1 h2 (Nat.lt_succ_self _) hlt).mono ?_
  rintro e w' ⟨rfl, v, hk, ho, hsz, hblk, ho1, ho2, ho3⟩
  refine ⟨rfl, ⟨v, hk, ho⟩, ho1, ho2, ho3, hsz, fun i hi hne hor => hblk i hi hne fun e => ?_⟩
  rcases h2.2 with ⟨h3, _⟩ | ⟨gg, cap, cur, h3, h4, h5, _⟩
  · rw [h3] at e; cases e
  · rw [h3] at e
    injection e with e
    subst e
    rcases hor with hor | hor
    · exact absurd hor (by simp; omega)
    · exact hor _ h5

end

end Go.Proofs.Ytdcdfhonkjmpeaa.Chunk
