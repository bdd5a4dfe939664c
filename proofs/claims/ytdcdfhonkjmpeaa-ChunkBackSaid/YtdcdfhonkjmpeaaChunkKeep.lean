import Derived.Test.YtdcdfhonkjmpeaaChunkJoin
namespace Go.Proofs.Ytdcdfhonkjmpeaa.Chunk
open Go.ChangeShapes Go.WideShapes Go.ChangeAt Go.RowKit Go.Deep
set_option linter.unusedVariables false
open Go.Lib

@[go_sem] theorem tail_bytes (c : UInt8) (rest : List UInt8) : (ByteArray.mk (c :: rest).toArray).extract 1 (rest.length + 1) = ⟨rest.toArray⟩ := by
  apply ByteArray.ext
  apply Array.ext'
  simp [ByteArray.data_extract]

theorem bytes_own {w : World} {B g n : Nat} {v : Value} {l : List UInt8} (h : w.ownsRow B 5 1 v n (cellsB l)) (hg : g < B) : n = l.length ∧ Bytes w B g v l := by
  obtain ⟨h1, h2⟩ := h
  have hn : n = l.length := by rw [cellsB_length] at h1; omega
  subst hn
  refine ⟨rfl, ?_⟩
  rcases h2 with ⟨h3, h4⟩ | ⟨gg, cap, cur, h3, h4, h5, h6, h7, h8, h9⟩
  · exact .inl ⟨0, by rw [h3], List.eq_nil_of_length_eq_zero h4⟩
  · refine .inr ⟨gg, 0, cap, h3, h6, h4, by omega, lt_of_block h5, fun j u hu => ?_⟩
    have hc := cell_of_row w gg (0 + j) cur 5 (0, 0) h5
    rw [hc, Nat.zero_add]
    have hs : (cellsB l)[j]? = some (.int .u8 (u.toNat : Int)) := cellsB_get l j u hu
    rw [← h9, List.getElem?_take] at hs
    split at hs
    · simpa using hs
    · cases hs

theorem keep_fin {w w4 : World} {o : Obj} {k : Nat} {row : Option Nat} (hg4 : ((w.alloc o).drewN k).grownBy w4 row) :
    w.heap.size ≤ w4.heap.size ∧ (∀ i, i < w.heap.size → some i ≠ row → w4.heap[i]? = w.heap[i]?) ∧ w4.os = w.os ∧ w4.tape = w.tape ∧ w4.output = w.output := by
  refine ⟨Nat.le_trans (by simp [World.drewN]) hg4.size, fun i hi hn => ?_, hg4.os, hg4.tape, hg4.output⟩
  rw [hg4.block i (by simp [World.drewN]; omega) hn]
  exact Below.heap_alloc w o i hi

theorem own_far {w : World} {B g n : Nat} {v u : Value} {e : TypeId} {xs : List Value} (h : w.ownsRow B e 1 v n xs) (hg : g < B) : (w.setCell ⟨g, 0, none⟩ u).ownsRow B e 1 v n xs := by
  obtain ⟨h1, h2⟩ := h
  refine ⟨h1, h2.imp id ?_⟩
  rintro ⟨gg, cap, cur, h3, h4, h5, h6⟩
  exact ⟨gg, cap, cur, h3, h4, (Below.heap_setCell w ⟨g, 0, none⟩ u gg (by simp; omega)).trans h5, h6⟩

set_option maxRecDepth 100000 in
set_option maxHeartbeats 3200000 in
theorem add_keep (g : Nat) (x : Value) (m : Int) (w : World) (c : UInt8) (rest l : List UInt8) (B : Nat) (last : Bool) (hc : ¬ 1 < c.toNat) (hla : c.toNat = (if last then 0 else 1)) (hm1 : m ≤ 65536) (hfit : ¬ m - (l.length : Int) < (rest.length : Int)) (h : Blk w g 90 #[x, .int .i64 m, .bool false]) (hown : w.ownsRow B 5 1 x l.length (cellsB l)) (hB : g < B) (hsz : B ≤ w.heap.size) :
    Calls Try.prog 21 #[.pointer (some ⟨g, 0, none⟩), .string ⟨(c :: rest).toArray⟩] w fun r w' => r = .returned (.tuple #[.string (if last then ⟨(l ++ rest).toArray⟩ else ⟨#[]⟩), .bool last, .int .i64 0]) ∧ ∃ v, Blk w' g 90 #[v, .int .i64 m, .bool false] ∧
      w'.ownsRow B 5 1 v (if last then [] else l ++ rest).length (cellsB (if last then [] else l ++ rest)) ∧ w.heap.size ≤ w'.heap.size ∧ (∀ i, i < w.heap.size → i ≠ g → some i ≠ x.ownBlock → w'.heap[i]? = w.heap[i]?) ∧ w'.os = w.os ∧ w'.tape = w.tape ∧ w'.output = w.output := by
  obtain ⟨a, cap, rfl⟩ : ∃ a cap, x = .slice a l.length cap := by
    rcases hown.2 with ⟨h1, h2⟩ | ⟨gg, cap, cur, h1, _⟩
    · exact ⟨none, 0, by rw [h1, h2]⟩
    · exact ⟨_, cap, h1⟩
  have hbx := Blk.new w 32 #[.pointer (some ⟨g, 0, none⟩)]
  have hj := h.alloc (.cells #[.pointer (some ⟨g, 0, none⟩)] 32)
  have hne : w.heap.size ≠ g := by have := h.lt; omega
  have hown1 := hown.alloc (.cells #[.pointer (some ⟨g, 0, none⟩)] 32)
  have hal : ∀ i, i < w.heap.size → (w.alloc (.cells #[.pointer (some ⟨g, 0, none⟩)] 32)).heap[i]? = w.heap[i]? := fun i hi => Below.heap_alloc w _ i hi
  have hals : (w.alloc (.cells #[.pointer (some ⟨g, 0, none⟩)] 32)).heap.size = w.heap.size + 1 := by simp
  have hlo := hown.lt
  obtain ⟨i5, hi5, hz0, hz1, hz2⟩ := info_parts info5
  have d0 := hbx.cell 0
  have c0 : (w.alloc (.cells #[.pointer (some ⟨g, 0, none⟩)] 32)).cell? ⟨g, 0, none⟩ = some (.slice a l.length cap) := hj.cell 0
  have c1 : (w.alloc (.cells #[.pointer (some ⟨g, 0, none⟩)] 32)).cell? ⟨g, 1, none⟩ = some (.int .i64 m) := hj.cell 1
  have c2 : (w.alloc (.cells #[.pointer (some ⟨g, 0, none⟩)] 32)).cell? ⟨g, 2, none⟩ = some (.bool false) := hj.cell 2
  have hc' : ¬ (1 : Int) < (c.toNat : Int) := by omega
  have h1r : (1 : Int) ≤ (rest.length : Int) + 1 := by omega
  have hw1 : IntKind.i64.wrap (rest.length : Int) = (rest.length : Int) := IntWalk.i64_in _ (by omega)
  have hw2 : IntKind.i64.wrap (m - (l.length : Int)) = m - (l.length : Int) := IntWalk.i64_in _ (by omega)
  have hl : l.length + rest.length ≤ 65536 := by omega
  have hnb : some w.heap.size ≠ (Value.slice a l.length cap).ownBlock := fun e => by have := hlo _ e.symm; omega
  have hng : some g ≠ (Value.slice a l.length cap).ownBlock := fun e => by have := hlo _ e.symm; omega
  have hlb : (c.toNat = 1 ∧ last = false) ∨ (c.toNat = 0 ∧ last = true) := by cases last <;> simp_all
  clear hla hc
  have HBY : Hid (l.length + (⟨rest.toArray⟩ : ByteArray).size ≤ 140737488355328) := by show _ ≤ _; have : (⟨rest.toArray⟩ : ByteArray).size = rest.length := rfl; omega
  have HBS : Hid (B ≤ (w.alloc (.cells #[.pointer (some ⟨g, 0, none⟩)] 32)).heap.size) := by show _ ≤ _; omega
  have HX := Lib.hid (And.intro hbx (And.intro hj (And.intro hne (And.intro hown1 (And.intro hal (And.intro hals (And.intro hlo (And.intro hnb (And.intro hng (And.intro hB hsz))))))))))
  clear hbx hj hne hown1 hal hals hlo hnb hng hB hsz h hown
  rcases hlb with ⟨hcq, rfl⟩ | ⟨hcq, rfl⟩
  · skip
    go_enter Try.func21, Try.ntmps21
    go_wp2_with fail
    go_quiet (fail)
    go_wp2_with fail
    go_region_law
      (refine step_append_string rfl (.tmp 55) (.tmp 57) 57 9 rfl 5 i5 und57 und9 hi5 hz0 hz1 hz2 B (.slice a l.length cap) l.length (cellsB l) (by exact HX.out.2.2.2.1) ⟨rest.toArray⟩ rfl rfl (by exact HBY.out) (by exact HBS.out) ?_
       intro a4 k4 w4 hown4 hg4
       have hb4 := Blk.grown (by exact HX.out.1) hg4 HX.out.2.2.2.2.2.2.2.1
       have hj4 := Blk.grown (by exact HX.out.2.1) hg4 HX.out.2.2.2.2.2.2.2.2.1
       have e0 := hb4.cell 0
       have e1 := hj4.cell 0
       have e2 := hj4.frozen 0
       have HR := Lib.hid (And.intro hown4 (And.intro hg4 (And.intro hb4 hj4)))
       clear hown4 hg4 hb4 hj4)
    all_goals
      have hr := HR.out
      clear HR
      obtain ⟨h1, h2, h3, h4⟩ := hr
      have hf := keep_fin h2
      have hk5 := h4.store 0 (.slice a4 (l.length + rest.length) k4)
      have ho5 : (w4.setCell ⟨g, 0, none⟩ (.slice a4 (l.length + rest.length) k4)).ownsRow B 5 1 (.slice a4 (l.length + rest.length) k4) (l ++ rest).length (cellsB (l ++ rest)) := by
        rw [cellsB_append, List.length_append]
        exact own_far (u := .slice a4 (l.length + rest.length) k4) h1 HX.out.2.2.2.2.2.2.2.2.2.1
      have HF := Lib.hid (And.intro hk5 (And.intro ho5 hf))
      clear h1 h2 h3 h4 hk5 ho5 hf
      go_wp2_with fail
      go_ret3
      have hf := HF.out
      refine ⟨rfl, _, hf.1, by simpa using hf.2.1, by simpa [World.setCell] using hf.2.2.1, fun i hi hne2 hno => ?_, hf.2.2.2.2.1, hf.2.2.2.2.2.1, hf.2.2.2.2.2.2⟩
      rw [Below.heap_setCell _ _ _ i (by simpa using hne2)]
      exact hf.2.2.2.1 i hi hno
  · skip
    go_enter Try.func21, Try.ntmps21
    go_wp2_with fail
    go_quiet (fail)
    go_wp2_with fail
    go_region_law
      (refine step_append_string rfl (.tmp 55) (.tmp 57) 57 9 rfl 5 i5 und57 und9 hi5 hz0 hz1 hz2 B (.slice a l.length cap) l.length (cellsB l) (by exact HX.out.2.2.2.1) ⟨rest.toArray⟩ rfl rfl (by exact HBY.out) (by exact HBS.out) ?_
       intro a4 k4 w4 hown4 hg4
       have hb4 := Blk.grown (by exact HX.out.1) hg4 HX.out.2.2.2.2.2.2.2.1
       have hj4 := Blk.grown (by exact HX.out.2.1) hg4 HX.out.2.2.2.2.2.2.2.2.1
       have e0 := hb4.cell 0
       have e1 := hj4.cell 0
       have e2 := hj4.frozen 0
       have HR := Lib.hid (And.intro hown4 (And.intro hg4 (And.intro hb4 hj4)))
       clear hown4 hg4 hb4 hj4)
    all_goals
      have hr := HR.out
      clear HR
      obtain ⟨h1, h2, h3, h4⟩ := hr
      have hf := keep_fin h2
      have hk5 := h4.store 0 (.slice a4 (l.length + rest.length) k4)
      have ho5 : (w4.setCell ⟨g, 0, none⟩ (.slice a4 (l.length + rest.length) k4)).ownsRow B 5 1 (.slice a4 (l.length + rest.length) k4) (l ++ rest).length (cellsB (l ++ rest)) := by
        rw [cellsB_append, List.length_append]
        exact own_far (u := .slice a4 (l.length + rest.length) k4) h1 HX.out.2.2.2.2.2.2.2.2.2.1
      have hby := (bytes_own ho5 HX.out.2.2.2.2.2.2.2.2.2.1).2
      have hcv := run_string_of (P := Try.prog) hby 57 9 5 und57 (by kernel_rfl) und9
      have e3 := (h3.far (p := ⟨g, 0, none⟩) (by have := HX.out.2.2.1; simpa using this) (.slice a4 (l.length + rest.length) k4)).cell 0
      have e4 := hk5.cell 0
      have e5 := hk5.frozen 0
      have hk6 := hk5.store 0 (.slice none 0 0)
      have HF := Lib.hid (And.intro hk6 hf)
      clear h1 h2 h3 h4 hk5 ho5 hf hby hk6
      go_wp2_with fail

      go_ret3
      have hf := HF.out
      refine ⟨rfl, _, hf.1, World.ownsRow_nil _ _ _ _, by simpa [World.setCell] using hf.2.1, fun i hi hne2 hno => ?_, hf.2.2.2.1, hf.2.2.2.2.1, hf.2.2.2.2.2⟩
      rw [Below.heap_setCell _ _ _ i (by simpa using hne2), Below.heap_setCell _ _ _ i (by simpa using hne2)]
      exact hf.2.2.1 i hi hno

end Go.Proofs.Ytdcdfhonkjmpeaa.Chunk
