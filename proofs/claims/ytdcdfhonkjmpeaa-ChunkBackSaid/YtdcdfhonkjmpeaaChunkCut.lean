import Derived.Test.YtdcdfhonkjmpeaaChunkPiece
namespace Go.Proofs.Ytdcdfhonkjmpeaa.Chunk
open Go.ChangeShapes Go.WideShapes Go.ChangeAt Go.RowKit Go.Deep
set_option linter.unusedVariables false
open Go.Lib

/-- How many pieces, in natural numbers. -/
def manyN (n k : Nat) : Nat := if n = 0 then 1 else (n - 1) / k + 1

theorem many_nat (n size : Int) (N k m : Nat) (hn : n = (N : Int)) (hk : size - 1 = (k : Int)) (h1 : 1 ≤ k) (h2 : k ≤ 255) (h4 : N ≤ 65536) (hm : m = manyN N k) (w : World) :
    Calls Try.prog 16 #[.int .i64 n, .int .i64 size] w fun e w' => e = .returned (.int .i64 (m : Int)) ∧ w = w' := by
  subst hn
  by_cases h0 : N = 0
  · subst h0
    have : m = 1 := by rw [hm]; rfl
    subst this
    exact many_one size (by omega) (by omega) w
  · have c1 : 2 ≤ size := by omega
    have c2 : size ≤ 256 := by omega
    have c3 : (0 : Int) < (N : Int) := by omega
    have c4 : (N : Int) ≤ 65536 := by omega
    have hq : (((N - 1) / k : Nat) : Int) = ((N : Int) - 1) / (size - 1) := by
      have hsub : ((N - 1 : Nat) : Int) = (N : Int) - 1 := by omega
      rw [hk, ← hsub]
      exact Int.natCast_ediv _ _
    have hmm : (m : Int) = (((N - 1) / k : Nat) : Int) + 1 := by
      rw [hm]
      unfold manyN
      rw [if_neg h0]
      exact Int.natCast_add _ _
    rw [hmm]
    exact many_ok N size _ c1 c2 c3 c4 hq w

theorem manyN_pos (N k : Nat) : 1 ≤ manyN N k := by
  unfold manyN
  split
  · exact Nat.le_refl _
  · exact Nat.succ_le_succ (Nat.zero_le _)
theorem manyN_le (N k : Nat) (h4 : N ≤ 65536) : manyN N k ≤ 65537 := by
  unfold manyN
  split
  · omega
  · have := Nat.div_le_self (N - 1) k
    omega
theorem manyN_off (N k i : Nat) (hk : 1 ≤ k) (hi : i < manyN N k) : i * k ≤ N := by
  unfold manyN at hi
  split at hi
  · obtain rfl : i = 0 := by omega
    omega
  · have h : i ≤ (N - 1) / k := by omega
    have := (Nat.le_div_iff_mul_le hk).1 h
    omega

/-- The first j pieces of m. -/
def piecesTo (L : List UInt8) (k m j : Nat) : List ByteArray := (List.range j).map fun i => pieceOf (decide (i + 1 = m)) ((L.drop (i * k)).take k)
def pieces (L : List UInt8) (k : Nat) : List ByteArray := piecesTo L k (manyN L.length k) (manyN L.length k)
def strs (l : List ByteArray) : List Value := l.map Value.string
theorem piecesTo_succ (L : List UInt8) (k m j : Nat) : piecesTo L k m (j + 1) = piecesTo L k m j ++ [pieceOf (decide (j + 1 = m)) ((L.drop (j * k)).take k)] := by
  unfold piecesTo
  rw [List.range_succ, List.map_append]
  rfl
theorem strs_succ (L : List UInt8) (k m j : Nat) : strs (piecesTo L k m (j + 1)) = strs (piecesTo L k m j) ++ [Value.string (pieceOf (decide (j + 1 = m)) ((L.drop (j * k)).take k))] := by
  rw [piecesTo_succ, strs, List.map_append]
  rfl

theorem info9 : (Try.prog.info? 9).map (fun i => (i.zero, i.size, i.bytes)) = some (some (.string ⟨#[]⟩), 1, 16) := by kernel_rfl
theorem und22 : Try.prog.underlying 22 = some (.slice 9) := by kernel_rfl

theorem owns_base {w : World} {B B' : Nat} {e : TypeId} {z : Nat} {v : Value} {n : Nat} {xs : List Value} (h : w.ownsRow B e z v n xs) (hb : B' ≤ B) : w.ownsRow B' e z v n xs := by
  obtain ⟨h1, h2⟩ := h
  refine ⟨h1, h2.imp id ?_⟩
  rintro ⟨g, cap, cur, a, b, c⟩
  exact ⟨g, cap, cur, a, Nat.le_trans hb b, c⟩

theorem one_cell {w : World} {g : Nat} {t : TypeId} {v : Value} (h : Blk w g t #[v]) : ∀ j u, [v][j]? = some u → w.cell? ((⟨g, 0, none⟩ : Addr).add j) = some u := by
  intro j u hu
  match j, hu with
  | 0, hu =>
    have h2 : some v = some u := by simpa using hu
    rw [← h2]
    exact h.cell 0

set_option maxRecDepth 100000 in
set_option maxHeartbeats 1600000 in
theorem cut_ok (s : ByteArray) (size : Int) (k m : Nat) (hk : size - 1 = (k : Int)) (h1 : 1 ≤ k) (h2 : k ≤ 255) (hs : s.size ≤ 65536) (hm : m = manyN s.size k) (w : World) :
    Calls Try.prog 15 #[.string s, .int .i64 size] w fun e w' => ∃ v, e = .returned (.tuple #[v, .int .i64 0]) ∧ w'.ownsRow w.heap.size 9 1 v m (strs (piecesTo s.data.toList k m m)) ∧ Below w.heap.size w w' := by
  obtain ⟨B, hB⟩ : ∃ B, w.heap.size = B := ⟨_, rfl⟩
  have hmb : true = decide (2 ≤ size ∧ size ≤ 256) := by simp; omega
  have hsb : ¬ (65536 : Int) < (s.size : Int) := by omega
  have hmp := manyN_pos s.size k
  have hml := manyN_le s.size k hs
  have hmo : ∀ i, i < manyN s.size k → i * k ≤ s.size := fun i hi => manyN_off _ _ i h1 hi
  rw [← hm] at hmp hml hmo
  rw [hB]
  obtain ⟨i9, hi9, hz0, hz1, hz2⟩ := info_parts info9
  have HF := Lib.hid (And.intro hk (And.intro h1 (And.intro h2 (And.intro hs (And.intro hm (And.intro hmb (And.intro hmp (And.intro hml hmo))))))))
  clear hk h1 h2 hs hm hmb hmp hml hmo
  have HB := Lib.hid hB
  clear hB
  go_enter Try.func15, Try.ntmps15
  go_wp2_with fail
  refine (may_any size true HF.out.2.2.2.2.2.1 _).mono ?_
  rintro e w1 ⟨rfl, rfl⟩
  go_wp2_with fail
  refine (many_nat _ size s.size k m rfl HF.out.1 HF.out.2.1 HF.out.2.2.1 HF.out.2.2.2.1 HF.out.2.2.2.2.1 _).mono ?_
  rintro e w1 ⟨rfl, rfl⟩
  go_wp2_with fail
  have hw2 : Blk (((w.alloc (Obj.cells #[Value.string s] 9)).alloc (Obj.cells #[Value.int IntKind.i64 size] 3)).alloc (Obj.cells #[Value.int IntKind.i64 ↑m] 3)) B 9 #[.string s] := by
    rw [← HB.out]; exact ((Blk.new w 9 _).alloc _).alloc _
  have hw3 : Blk (((w.alloc (Obj.cells #[Value.string s] 9)).alloc (Obj.cells #[Value.int IntKind.i64 size] 3)).alloc (Obj.cells #[Value.int IntKind.i64 ↑m] 3)) (B + 1) 3 #[.int .i64 size] := by
    have := (Blk.new (w.alloc (Obj.cells #[Value.string s] 9)) 3 #[.int .i64 size]).alloc (Obj.cells #[Value.int IntKind.i64 ↑m] 3)
    rw [show (w.alloc (Obj.cells #[Value.string s] 9)).heap.size = B + 1 by rw [← HB.out]; simp] at this
    exact this
  have hw6 : Blk (((w.alloc (Obj.cells #[Value.string s] 9)).alloc (Obj.cells #[Value.int IntKind.i64 size] 3)).alloc (Obj.cells #[Value.int IntKind.i64 ↑m] 3)) (B + 1 + 1) 3 #[.int .i64 m] := by
    have := Blk.new ((w.alloc (Obj.cells #[Value.string s] 9)).alloc (Obj.cells #[Value.int IntKind.i64 size] 3)) 3 #[.int .i64 m]
    rw [show ((w.alloc (Obj.cells #[Value.string s] 9)).alloc (Obj.cells #[Value.int IntKind.i64 size] 3)).heap.size = B + 1 + 1 by rw [← HB.out]; simp] at this
    exact this
  have hwb : Below B w (((w.alloc (Obj.cells #[Value.string s] 9)).alloc (Obj.cells #[Value.int IntKind.i64 size] 3)).alloc (Obj.cells #[Value.int IntKind.i64 ↑m] 3)) := by
    have h0 : B ≤ w.heap.size := Nat.le_of_eq HB.out.symm
    exact (((Below.refl _ _).alloc h0 _).alloc (by simp; omega) _).alloc (by simp; omega) _
  rw [HB.out]
  generalize (((w.alloc (Obj.cells #[Value.string s] 9)).alloc (Obj.cells #[Value.int IntKind.i64 size] 3)).alloc (Obj.cells #[Value.int IntKind.i64 ↑m] 3)) = w0 at *
  go_loopw [8, 24] (fun out i wr => ∃ j : Nat, j ≤ m ∧ i = .int .i64 j ∧ wr.ownsRow (B + 3) 9 1 out j (strs (piecesTo s.data.toList k m j)) ∧ Blk wr B 9 #[.string s] ∧ Blk wr (B + 1) 3 #[.int .i64 size] ∧ Blk wr (B + 1 + 1) 3 #[.int .i64 m] ∧ Below B w wr) (fun _ i _ => m - (intOf i).toNat)
  case atStart => exact ⟨0, Nat.zero_le _, rfl, World.ownsRow_nil _ _ _ _, hw2, hw3, hw6, hwb⟩
  case round =>
    obtain ⟨j, hj, rfl, hown, hb2, hb3, hb6, hbel⟩ := hrel
    have hin : j < m ∨ ¬ j < m := by omega
    rcases hin with hlt | hout
    · obtain ⟨d, hd⟩ : ∃ d, s.size = j * k + d := ⟨s.size - j * k, by have := HF.out.2.2.2.2.2.2.2.2 j hlt; omega⟩
      obtain ⟨n, hn⟩ : ∃ n, n = min k d := ⟨_, rfl⟩
      have hl : (s.data.toList.drop (j * k)).take k = (s.data.toList.drop (j * k)).take n := by
        have hlen : s.data.toList.length = s.size := Array.length_toList
        rw [hn, List.take_eq_take_iff]
        rw [List.length_drop, hlen]; omega
      have hml : m ≤ 65537 := HF.out.2.2.2.2.2.2.2.1
      have hpc := piece_any (B + 1) B (B + 1 + 1) s j size m (j * k) k d n (n + 1) _ _ 3 9 3 wr hb3 hb2 hb6 HF.out.1 (by simp) hd HF.out.2.2.2.1 HF.out.2.1 HF.out.2.2.1 hn rfl hl (by omega) (by omega) (by omega) (rfl : _ = decide ((j : Int) + 1 = (m : Int)))
      have hsz : B + 3 ≤ wr.heap.size := by have := hb6.lt; omega
      obtain ⟨p, hp⟩ : ∃ p, p = pieceOf (decide ((j : Int) + 1 = (m : Int))) ((s.data.toList.drop (j * k)).take k) := ⟨_, rfl⟩
      have hst : strs (piecesTo s.data.toList k m (j + 1)) = strs (piecesTo s.data.toList k m j) ++ [Value.string p] := by
        rw [strs_succ, hp]
        congr 4
        simp
        omega
      rw [← hp] at hpc
      have HST := Lib.hid hst
      have HPC := Lib.hid hpc
      have HOWN := Lib.hid hown
      have HB2 := Lib.hid hb2
      have HB3 := Lib.hid hb3
      have HB6 := Lib.hid hb6
      have HBEL := Lib.hid hbel
      clear hp hl hd hn hpc hst hown hb2 hb3 hb6 hbel
      go_wp2_with fail
      refine HPC.out.mono ?_
      rintro e w4 ⟨rfl, hb4⟩
      have hk2 := HB2.out.below hb4 HB2.out.lt
      have hk3 := HB3.out.below hb4 HB3.out.lt
      have hk6 := HB6.out.below hb4 HB6.out.lt
      have hko := HOWN.out.kept (row := none) (only_new hb4 none) (by cases u8.ownBlock <;> simp)
      have hkb := HBEL.out.trans (hb4.mono (by omega))
      have hs4 : B + 3 ≤ w4.heap.size := Nat.le_trans hsz hb4.size
      have HN := Lib.hid (Blk.new w4 9 #[.string p])
      have HK2 := Lib.hid hk2
      clear hk2
      have HK3 := Lib.hid hk3
      clear hk3
      have HK6 := Lib.hid hk6
      clear hk6
      have HKB := Lib.hid hkb
      clear hkb
      have HKO := Lib.hid hko
      clear hko
      clear hb4
      go_wp2_with (at_builtin; refine wpList_append_own _ rfl _ _ 22 rfl (B + 3) 9 i9 _ 1 16 und22 hi9 hz0 hz1 hz2 rfl (by omega) _ j _ rfl (HKO.out.alloc _) ⟨w4.heap.size, 0, none⟩ 1 1 [.string p] rfl rfl (one_cell HN.out) (by simp [Value.oneCell']) (by unfold maxLen; omega) (by omega) (by simp; omega) ?_)
      intro v' w5 hown5 hg5 hiff
      have HN2 := HKO.out
      have hob : ∀ i, i < B + 3 → w5.heap[i]? = w4.heap[i]? := by
        intro i hi
        rw [hg5.block i (by simp; omega) (by
          intro e
          have := (HN2.lt i e.symm).1
          omega)]
        exact Below.heap_alloc w4 _ i (by omega)
      have hkb5 : Below B w w5 := by
        refine HKB.out.trans ⟨?_, ?_, ?_, ?_, fun i hi => hob i (by omega)⟩
        · exact hg5.os
        · exact hg5.tape
        · exact hg5.output
        · exact Nat.le_trans (by simp) hg5.size
      have HR := Lib.hid (And.intro hown5 (And.intro ((hob B (by omega)).trans HK2.out) (And.intro ((hob (B + 1) (by omega)).trans HK3.out) (And.intro ((hob (B + 1 + 1) (by omega)).trans HK6.out) hkb5))))
      clear hown5 hg5 hob hkb5 hiff HN2
      go_wp2_with fail
      go_roundw
      case rel => exact ⟨j + 1, by omega, by go_num, by rw [HST.out]; exact HR.out.1, HR.out.2.1, HR.out.2.2.1, HR.out.2.2.2.1, HR.out.2.2.2.2⟩
      case measure => simp [intOf]; omega
    · go_wp2_with fail
      go_ret2
      obtain rfl : j = m := by omega
      exact ⟨_, rfl, owns_base hown (by omega), hbel⟩

end Go.Proofs.Ytdcdfhonkjmpeaa.Chunk
