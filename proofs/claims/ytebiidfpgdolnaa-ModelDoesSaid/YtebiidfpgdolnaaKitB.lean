/-
  Words on bytes that lie in memory: a slice of bytes that reads as a list; a string turned into bytes, and back.
-/
import Derived.Test.YtebiidfpgdolnaaKit
import Derived.Laws.IdiomStrings
import Derived.Laws.BytesArg
import Derived.Laws.Concat
namespace Go.Proofs.Ytebiidfpgdolnaa
open Go.ChangeShapes Go.WideShapes Go.ChangeAt Go.RowKit Go.Deep
set_option linter.unusedVariables false

/-- The slice value v reads as the bytes l, in blocks from B on, none of which is g. -/
def Bytes (w : World) (B g : Nat) (v : Value) (l : List UInt8) : Prop :=
  (∃ c, v = .slice none 0 c ∧ l = []) ∨
  ∃ h off c, v = .slice (some ⟨h, off, none⟩) l.length c ∧ l.length ≤ c ∧ B ≤ h ∧ h ≠ g ∧ h < w.heap.size ∧
    ∀ j u, l[j]? = some u → w.cell? ⟨h, off + j, none⟩ = some (.int .u8 (u.toNat : Int))

section
variable {w w' : World} {B g : Nat} {v : Value} {l : List UInt8}
theorem Bytes.keep (h : Bytes w B g v l) (hs : w.heap.size ≤ w'.heap.size) (hk : ∀ i, i < w.heap.size → i ≠ g → w'.heap[i]? = w.heap[i]?) : Bytes w' B g v l := by
  rcases h with h | ⟨b, off, c, h1, h2, h3, h4, h5, h6⟩
  · exact .inl h
  · refine .inr ⟨b, off, c, h1, h2, h3, h4, by omega, fun j u hu => ?_⟩
    rw [← h6 j u hu]
    exact World.cell?_of_block (hk b h5 h4)
theorem Bytes.grown (h : Bytes w B g v l) (hg : w.grownBy w' (some g)) : Bytes w' B g v l :=
  h.keep hg.size fun i hi hn => hg.block i hi (fun e => hn (by injection e))
theorem Bytes.below (h : Bytes w B g v l) (hg : Below w.heap.size w w') : Bytes w' B g v l :=
  h.keep hg.size fun i hi hn => hg.block i hi
theorem Bytes.len (h : Bytes w B g v l) : ∃ a c, v = .slice a l.length c ∧ l.length ≤ c := by
  rcases h with ⟨c, h1, rfl⟩ | ⟨b, off, c, h1, h2, _⟩
  · exact ⟨none, c, h1, Nat.zero_le _⟩
  · exact ⟨_, c, h1, h2⟩
end

/-- '[]byte(s)' in a walk: a new block; what lies in it. -/
theorem wpList_bytes_of {P : Program} {ops : Array Oper} {rest : List Oper} {op : Oper} {a : Act} {w : World} {Q : Exit → Act → World → Prop} (hgd : op.guard = none) (src dst e : TypeId) (x : Operand) (ho : op.op = .convert src dst x)
    (s : ByteArray) (hx : a.eval x = .string s) (hs : P.underlying src = some .string) (hd : P.underlying dst = some (.slice e)) (he : P.underlying e = some (.int .u8))
    (h : ∀ (cap : Nat) (w1 : World), s.size ≤ cap → Below w.heap.size w w1 → w1.heap.size = w.heap.size + 1 → (∀ B g, B ≤ w.heap.size → g < w.heap.size → Bytes w1 B g (.slice (some ⟨w.heap.size, 0, none⟩) s.size cap) s.data.toList) →
      wpList P ops Q rest (a.put op.dst (.slice (some ⟨w.heap.size, 0, none⟩) s.size cap)) w1) : wpList P ops Q (op :: rest) a w := by
  refine wpList_plain hgd fun _ hK => ?_
  unfold Oper.wp execOp
  simp only [ho, hx, Sem.run_bind, Sem.run_pure, Result.andThen_ok, run_bytes_of_string w src dst e s hs hd he]
  have hcap := grownCap_ge w s.size 0 e
  refine hK _ _ (h _ _ hcap (((Below.refl _ _).drew).alloc (Nat.le_refl _) _) (by simp) ?_)
  intro B g hB hg
  have hlen : s.data.toList.length = s.size := Array.length_toList
  refine .inr ⟨w.heap.size, 0, _, by rw [hlen], by rw [hlen]; exact hcap, hB, by omega, by simp, fun j u hu => ?_⟩
  have hrow := cell_of_row (w.drew.alloc (.cells (bytesRow s (grownCap w s.size 0 e)) e ((bytesRow s (grownCap w s.size 0 e)).size, (bytesRow s (grownCap w s.size 0 e)).size + 1))) w.heap.size (0 + j) _ e _ (heap_alloc_new w.drew _)
  rw [hrow]
  have hj : j < s.data.size := by have := (List.getElem?_eq_some_iff.1 hu).1; simpa using this
  unfold bytesRow
  rw [Nat.zero_add, Array.getElem?_append_left (by simpa using hj)]
  simp only [Array.getElem?_map]
  have : s.data[j]? = some u := by simpa using hu
  rw [this]
  rfl

/-- 'string(b)': the bytes that it reads as. -/
theorem run_string_of {P : Program} {w : World} {B g : Nat} {v : Value} {l : List UInt8} (h : Bytes w B g v l) (src dst e : TypeId) (hs : P.underlying src = some (.slice e)) (he : P.underlying e = some (.int .u8)) (hd : P.underlying dst = some .string) :
    (convert src dst v).run P w = .ok (.string ⟨l.toArray⟩) w := by
  rcases h with ⟨c, rfl, rfl⟩ | ⟨b, off, c, rfl, h2, h3, h4, h5, h6⟩
  · rw [run_convert_bytes_nil w src e hs he 0 c dst hd]
    rfl
  · refine run_convert_bytes_back w src dst e _ c l hs he hd fun j hj => ?_
    have hadd : (⟨b, off, none⟩ : Addr).add j = ⟨b, off + j, none⟩ := by unfold Addr.add; split <;> simp_all
    rw [hadd, h6 j _ (List.getElem?_eq_getElem hj)]

/-- A cut at the front: what is left. -/
theorem Bytes.front {w : World} {B g : Nat} {a : Option Addr} {n c k : Nat} {l : List UInt8} (h : Bytes w B g (.slice a n c) l) (hk : k ≤ n) :
    n = l.length ∧ Bytes w B g (.slice a k c) (l.take k) := by
  rcases h with ⟨c', h1, rfl⟩ | ⟨b, off, c', h1, h2, h3, h4, h5, h6⟩
  · injection h1 with e1 e2 e3
    subst e1; subst e2; subst e3
    obtain rfl : k = 0 := by omega
    exact ⟨rfl, .inl ⟨c, rfl, rfl⟩⟩
  · injection h1 with e1 e2 e3
    subst e1; subst e2; subst e3
    refine ⟨rfl, .inr ⟨b, off, c, by rw [List.length_take, Nat.min_eq_left hk], by rw [List.length_take]; omega, h3, h4, h5, fun j u hu => h6 j u ?_⟩⟩
    rw [List.getElem?_take] at hu
    split at hu
    · exact hu
    · cases hu

theorem bytes_mk (s : ByteArray) : (⟨s.data.toList.toArray⟩ : ByteArray) = s := rfl

end Go.Proofs.Ytebiidfpgdolnaa
