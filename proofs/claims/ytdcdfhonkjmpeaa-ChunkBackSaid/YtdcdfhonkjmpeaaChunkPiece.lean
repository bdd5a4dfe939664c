import Derived.Test.YtdcdfhonkjmpeaaChunk
import Derived.Test.YtdcdfhonkjmpeaaChunkCopy
namespace Go.Proofs.Ytdcdfhonkjmpeaa.Chunk
open Go.ChangeShapes Go.WideShapes Go.ChangeAt Go.RowKit Go.Deep
set_option linter.unusedVariables false

/-- One piece: its first byte, and what follows. -/
def pieceOf (last : Bool) (l : List UInt8) : ByteArray := ⟨((if last then 0 else 1) :: l).toArray⟩

theorem info5 : (Try.prog.info? 5).map (fun i => (i.zero, i.size, i.bytes)) = some (some (.int .u8 0), 1, 1) := by kernel_rfl

theorem und57 : Try.prog.underlying 57 = some (.slice 5) := by kernel_rfl
theorem und9 : Try.prog.underlying 9 = some .string := by kernel_rfl

theorem cut_list (s : ByteArray) (fr n d k N : Nat) (hd : s.size = fr + d) (hn : n = min k d) (hN : N = n + 1) : (s.data.toList.drop fr).take n = (s.extract fr s.size).data.toList.take (N - 1) := by
  subst hN
  rw [ByteArray.data_extract, Array.toList_extract, List.extract_eq_take_drop, Nat.add_sub_cancel, List.take_take]
  congr 1
  omega

theorem splice_one (row : List Value) (N : Nat) (l : List UInt8) (h : row.length = N) (hN : N = 1 + l.length) : splice (row.set 0 (.int .u8 1)) 1 (cellsB l) = cellsB (1 :: l) := by
  subst hN
  cases row with
  | nil => simp at h; omega
  | cons v r =>
    have hr : r.length = l.length := by simp at h; omega
    have : r.drop l.length = [] := List.drop_eq_nil_of_le (by omega)
    simp [splice, cellsB, Nat.add_comm 1, this]

theorem splice_zero (row : List Value) (N : Nat) (l : List UInt8) (h : row = List.replicate N (Value.int .u8 0)) (hN : N = 1 + l.length) : splice row 1 (cellsB l) = cellsB (0 :: l) := by
  subst h hN
  rw [Nat.add_comm 1, List.replicate_succ]
  simp [splice, cellsB, Nat.add_comm 1]

theorem zeros_at (N j : Nat) (h : j < N) : (List.replicate N (Value.int .u8 0)).toArray[j]? = some (.int .u8 0) := by simp [h]

theorem bytes_row (w : World) (g : Nat) (l : List UInt8) (t : TypeId) (hb : Blk w g t (cellsB l).toArray) (N : Nat) (hN : N = l.length) : Bytes w g w.heap.size (.slice (some ⟨g, 0, none⟩) N N) l := by
  subst hN
  refine .inr ⟨g, 0, l.length, rfl, Nat.le_refl _, Nat.le_refl _, Nat.ne_of_lt hb.lt, hb.lt, fun j u hu => ?_⟩
  rw [hb.cell]
  simp [cellsB, hu]

set_option maxRecDepth 100000 in
theorem piece_any (bs bm bk : Nat) (s : ByteArray) (i size m : Int) (fr k d n N : Nat) (l : List UInt8) (last : Bool) (T1 T2 T3 : TypeId) (w : World)
    (hs : Blk w bs T1 #[.int .i64 size]) (hm : Blk w bm T2 #[.string s]) (hk : Blk w bk T3 #[.int .i64 m])
    (hkk : size - 1 = (k : Int)) (hfr : i * (k : Int) = (fr : Int)) (hd : s.size = fr + d) (hsz : s.size ≤ 65536) (h2 : 1 ≤ k) (h256 : k ≤ 255) (hn : n = min k d) (hN : N = n + 1)
    (hl : l = (s.data.toList.drop fr).take n) (hi0 : 0 ≤ i) (him : i < m) (hmm : m ≤ 70000) (hla : last = decide (i + 1 = m)) :
    Calls Try.prog 50 #[.int .i64 i, .pointer (some ⟨bs, 0, none⟩), .pointer (some ⟨bm, 0, none⟩), .pointer (some ⟨bk, 0, none⟩)] w fun e w' => e = .returned (.string (pieceOf last l)) ∧ Below w.heap.size w w' := by
  have cs := hs.cell 0
  have cm := hm.cell 0
  have ck := hk.cell 0
  have hw1 : IntKind.i64.wrap (size - 1) = (k : Int) := by rw [hkk]; exact IntWalk.i64_in _ (by omega)
  have hw2 : IntKind.i64.wrap (i * (k : Int)) = (fr : Int) := by rw [hfr]; exact IntWalk.i64_in _ (by omega)
  have hw3 : IntKind.i64.wrap ((s.size : Int) - fr) = (d : Int) := by rw [IntWalk.i64_in _ (by omega)]; omega
  have hw4 : IntKind.i64.wrap (1 + (n : Int)) = (N : Int) := by rw [IntWalk.i64_in _ (by omega)]; omega
  have hw5 : IntKind.i64.wrap (m - 1) = m - 1 := IntWalk.i64_in _ (by omega)
  have HL : Hid (l = (s.extract fr s.size).data.toList.take (N - 1)) := by rw [hl]; exact cut_list s fr n d k N hd hn hN
  have hln : l.length = n := by
    have hlen : s.data.toList.length = s.size := Array.length_toList
    rw [hl, List.length_take, List.length_drop, hlen]; omega
  have HLl : Hid (0 < l.length → ¬ N = 1) := fun h => by omega
  obtain ⟨i5, hi5, hz0, hz1, hz2⟩ := info_parts info5
  have hc : (d < k ∧ n = d) ∨ (¬ d < k ∧ n = k) := by omega
  have hl2 : (i < m - 1 ∧ last = false) ∨ (¬ i < m - 1 ∧ last = true) := by
    rw [hla]
    by_cases h : i + 1 = m
    · exact .inr ⟨by omega, by simp [h]⟩
    · exact .inl ⟨by omega, by simp [h]⟩
  have hfs : fr ≤ s.size := by omega
  have hN2 : N ≤ 256 := by omega
  have HF := Lib.hid (And.intro hkk (And.intro hfr (And.intro hd (And.intro hn (And.intro hN (And.intro hl (And.intro hla hln)))))))
  clear hkk hfr hd hn hN hl hla hln hsz h2 h256
  rcases hc with ⟨hc, rfl⟩ | ⟨hc, rfl⟩ <;> rcases hl2 with ⟨hq, rfl⟩ | ⟨hq, rfl⟩
  · go_enter Try.func50, Try.ntmps50
    go_wp2_with (at_make; refine wpList_make_bytes _ rfl _ _ 57 rfl 5 i5 und57 hi5 hz0 hz1 hz2 _ _ _ _ N rfl rfl rfl rfl (by omega) ?_)
    intro g w1 row hrow hrl hb hbel
    have cs1 := (hs.below hbel (by rw [hrow.out.1]; exact hs.lt)).cell 0
    have cm1 := (hm.below hbel (by rw [hrow.out.1]; exact hm.lt)).cell 0
    have ck1 := (hk.below hbel (by rw [hrow.out.1]; exact hk.lt)).cell 0
    have cr1 : w1.cell? ⟨g, 0, none⟩ = some (.int .u8 0) := by rw [hb.cell, hrow.out.2]; exact zeros_at N 0 (by have := HF.out; omega)
    have fr1 := hb.frozen 0
    have cm2 := ((hm.below hbel (by rw [hrow.out.1]; exact hm.lt)).far (p := ⟨g, 0, none⟩) (by rw [hrow.out.1]; exact Nat.ne_of_lt hm.lt) (.int .u8 1)).cell 0
    have hN1 : 0 < N := by have := HF.out; omega
    have hN1' : (1 : Int) ≤ (N : Int) := by omega
    have hb2 : Blk (w1.setCell ⟨g, 0, none⟩ (.int .u8 1)) g 5 (row.set 0 (.int .u8 1)).toArray := (hb.store 0 (.int .u8 1)).eq (by simp)
    have HR : Hid (1 + l.length ≤ (row.set 0 (.int .u8 1)).length) := show _ ≤ _ by rw [List.length_set, hrl]; have := HF.out; omega
    have hbel2 : Below g w (w1.setCell ⟨g, 0, none⟩ (.int .u8 1)) := Below.setCell hbel (Nat.le_refl _) _
    have HB2 := Lib.hid hb2
    clear hb2
    have HBel2 := Lib.hid hbel2
    clear hbel2
    have HB := Lib.hid hb
    have HBel := Lib.hid hbel
    clear hb hbel
    go_wp2_with fail
    generalize w1.setCell ⟨g, 0, none⟩ (.int .u8 1) = w2 at *
    go_region_law (refine step_copy_string rfl (.tmp 28) (.tmp 31) 57 9 rfl 5 und57 (by rw [hi5]; simp [hz1]) _ _ _ _ rfl rfl g 1 (row.set 0 (.int .u8 1)) 5 (by first | exact HB2.out | exact HB2.out.drewN _) l HL.out (fun h => if_neg (HLl.out h)) HR.out ?_)
    all_goals
      have hb3 : Hid (Blk (w2.drew.setRow g (splice (row.set 0 (.int .u8 1)) 1 (cellsB l)).toArray) g 5 (cellsB (1 :: l)).toArray) := by
        show Blk _ _ _ _
        have := setRow_heap w2.drew g (row.set 0 (.int .u8 1)).toArray (splice (row.set 0 (.int .u8 1)) 1 (cellsB l)).toArray 5 (0, 0) HB2.out.drew
        rw [splice_one row N l hrl (by have := HF.out; omega)] at this ⊢
        exact this
      have hbel3 : Hid (Below g w (w2.drew.setRow g (splice (row.set 0 (.int .u8 1)) 1 (cellsB l)).toArray)) := below_setRow HBel2.out.drew (Nat.le_refl _) _
      generalize (w2.drew.setRow g (splice (row.set 0 (.int .u8 1)) 1 (cellsB l)).toArray) = w3 at *
      have hcv := run_string_of (P := Try.prog) (bytes_row w3 g (1 :: l) 5 hb3.out N (by have := HF.out; simp; omega)) 57 9 5 und57 (by kernel_rfl) und9
      go_wp2_with fail
      all_goals
        go_ret
        exact ⟨rfl, by rw [← hrow.out.1]; exact hbel3.out⟩
  · go_enter Try.func50, Try.ntmps50
    go_wp2_with (at_make; refine wpList_make_bytes _ rfl _ _ 57 rfl 5 i5 und57 hi5 hz0 hz1 hz2 _ _ _ _ N rfl rfl rfl rfl (by omega) ?_)
    intro g w1 row hrow hrl hb hbel
    have cs1 := (hs.below hbel (by rw [hrow.out.1]; exact hs.lt)).cell 0
    have cm1 := (hm.below hbel (by rw [hrow.out.1]; exact hm.lt)).cell 0
    have ck1 := (hk.below hbel (by rw [hrow.out.1]; exact hk.lt)).cell 0
    have cr1 : w1.cell? ⟨g, 0, none⟩ = some (.int .u8 0) := by rw [hb.cell, hrow.out.2]; exact zeros_at N 0 (by have := HF.out; omega)
    have fr1 := hb.frozen 0
    have hN1 : 0 < N := by have := HF.out; omega
    have hN1' : (1 : Int) ≤ (N : Int) := by omega
    have HB2 := Lib.hid hb
    have HBel2 := Lib.hid hbel
    have HR : Hid (1 + l.length ≤ row.length) := show _ ≤ _ by rw [hrl]; have := HF.out; omega
    clear hb hbel
    go_wp2_with fail

    go_region_law (refine step_copy_string rfl (.tmp 28) (.tmp 31) 57 9 rfl 5 und57 (by rw [hi5]; simp [hz1]) _ _ _ _ rfl rfl g 1 row 5 (by first | exact HB2.out | exact HB2.out.drewN _) l HL.out (fun h => if_neg (HLl.out h)) HR.out ?_)
    all_goals
      have hb3 : Hid (Blk (w1.drew.setRow g (splice row 1 (cellsB l)).toArray) g 5 (cellsB (0 :: l)).toArray) := by
        show Blk _ _ _ _
        have := setRow_heap w1.drew g row.toArray (splice row 1 (cellsB l)).toArray 5 (0, 0) HB2.out.drew
        rw [splice_zero row N l hrow.out.2 (by have := HF.out; omega)] at this ⊢
        exact this
      have hbel3 : Hid (Below g w (w1.drew.setRow g (splice row 1 (cellsB l)).toArray)) := below_setRow HBel2.out.drew (Nat.le_refl _) _
      generalize (w1.drew.setRow g (splice row 1 (cellsB l)).toArray) = w3 at *
      have hcv := run_string_of (P := Try.prog) (bytes_row w3 g (0 :: l) 5 hb3.out N (by have := HF.out; simp; omega)) 57 9 5 und57 (by kernel_rfl) und9
      go_wp2_with fail
      all_goals
        go_ret
        exact ⟨rfl, by rw [← hrow.out.1]; exact hbel3.out⟩
  · go_enter Try.func50, Try.ntmps50
    go_wp2_with (at_make; refine wpList_make_bytes _ rfl _ _ 57 rfl 5 i5 und57 hi5 hz0 hz1 hz2 _ _ _ _ N rfl rfl rfl rfl (by omega) ?_)
    intro g w1 row hrow hrl hb hbel
    have cs1 := (hs.below hbel (by rw [hrow.out.1]; exact hs.lt)).cell 0
    have cm1 := (hm.below hbel (by rw [hrow.out.1]; exact hm.lt)).cell 0
    have ck1 := (hk.below hbel (by rw [hrow.out.1]; exact hk.lt)).cell 0
    have cr1 : w1.cell? ⟨g, 0, none⟩ = some (.int .u8 0) := by rw [hb.cell, hrow.out.2]; exact zeros_at N 0 (by have := HF.out; omega)
    have fr1 := hb.frozen 0
    have cm2 := ((hm.below hbel (by rw [hrow.out.1]; exact hm.lt)).far (p := ⟨g, 0, none⟩) (by rw [hrow.out.1]; exact Nat.ne_of_lt hm.lt) (.int .u8 1)).cell 0
    have hN1 : 0 < N := by have := HF.out; omega
    have hN1' : (1 : Int) ≤ (N : Int) := by omega
    have hb2 : Blk (w1.setCell ⟨g, 0, none⟩ (.int .u8 1)) g 5 (row.set 0 (.int .u8 1)).toArray := (hb.store 0 (.int .u8 1)).eq (by simp)
    have HR : Hid (1 + l.length ≤ (row.set 0 (.int .u8 1)).length) := show _ ≤ _ by rw [List.length_set, hrl]; have := HF.out; omega
    have hbel2 : Below g w (w1.setCell ⟨g, 0, none⟩ (.int .u8 1)) := Below.setCell hbel (Nat.le_refl _) _
    have HB2 := Lib.hid hb2
    clear hb2
    have HBel2 := Lib.hid hbel2
    clear hbel2
    have HB := Lib.hid hb
    have HBel := Lib.hid hbel
    clear hb hbel
    go_wp2_with fail
    generalize w1.setCell ⟨g, 0, none⟩ (.int .u8 1) = w2 at *
    go_region_law (refine step_copy_string rfl (.tmp 28) (.tmp 31) 57 9 rfl 5 und57 (by rw [hi5]; simp [hz1]) _ _ _ _ rfl rfl g 1 (row.set 0 (.int .u8 1)) 5 (by first | exact HB2.out | exact HB2.out.drewN _) l HL.out (fun h => if_neg (HLl.out h)) HR.out ?_)
    all_goals
      have hb3 : Hid (Blk (w2.drew.setRow g (splice (row.set 0 (.int .u8 1)) 1 (cellsB l)).toArray) g 5 (cellsB (1 :: l)).toArray) := by
        show Blk _ _ _ _
        have := setRow_heap w2.drew g (row.set 0 (.int .u8 1)).toArray (splice (row.set 0 (.int .u8 1)) 1 (cellsB l)).toArray 5 (0, 0) HB2.out.drew
        rw [splice_one row N l hrl (by have := HF.out; omega)] at this ⊢
        exact this
      have hbel3 : Hid (Below g w (w2.drew.setRow g (splice (row.set 0 (.int .u8 1)) 1 (cellsB l)).toArray)) := below_setRow HBel2.out.drew (Nat.le_refl _) _
      generalize (w2.drew.setRow g (splice (row.set 0 (.int .u8 1)) 1 (cellsB l)).toArray) = w3 at *
      have hcv := run_string_of (P := Try.prog) (bytes_row w3 g (1 :: l) 5 hb3.out N (by have := HF.out; simp; omega)) 57 9 5 und57 (by kernel_rfl) und9
      go_wp2_with fail
      all_goals
        go_ret
        exact ⟨rfl, by rw [← hrow.out.1]; exact hbel3.out⟩
  · go_enter Try.func50, Try.ntmps50
    go_wp2_with (at_make; refine wpList_make_bytes _ rfl _ _ 57 rfl 5 i5 und57 hi5 hz0 hz1 hz2 _ _ _ _ N rfl rfl rfl rfl (by omega) ?_)
    intro g w1 row hrow hrl hb hbel
    have cs1 := (hs.below hbel (by rw [hrow.out.1]; exact hs.lt)).cell 0
    have cm1 := (hm.below hbel (by rw [hrow.out.1]; exact hm.lt)).cell 0
    have ck1 := (hk.below hbel (by rw [hrow.out.1]; exact hk.lt)).cell 0
    have cr1 : w1.cell? ⟨g, 0, none⟩ = some (.int .u8 0) := by rw [hb.cell, hrow.out.2]; exact zeros_at N 0 (by have := HF.out; omega)
    have fr1 := hb.frozen 0
    have hN1 : 0 < N := by have := HF.out; omega
    have hN1' : (1 : Int) ≤ (N : Int) := by omega
    have HB2 := Lib.hid hb
    have HBel2 := Lib.hid hbel
    have HR : Hid (1 + l.length ≤ row.length) := show _ ≤ _ by rw [hrl]; have := HF.out; omega
    clear hb hbel
    go_wp2_with fail

    go_region_law (refine step_copy_string rfl (.tmp 28) (.tmp 31) 57 9 rfl 5 und57 (by rw [hi5]; simp [hz1]) _ _ _ _ rfl rfl g 1 row 5 (by first | exact HB2.out | exact HB2.out.drewN _) l HL.out (fun h => if_neg (HLl.out h)) HR.out ?_)
    all_goals
      have hb3 : Hid (Blk (w1.drew.setRow g (splice row 1 (cellsB l)).toArray) g 5 (cellsB (0 :: l)).toArray) := by
        show Blk _ _ _ _
        have := setRow_heap w1.drew g row.toArray (splice row 1 (cellsB l)).toArray 5 (0, 0) HB2.out.drew
        rw [splice_zero row N l hrow.out.2 (by have := HF.out; omega)] at this ⊢
        exact this
      have hbel3 : Hid (Below g w (w1.drew.setRow g (splice row 1 (cellsB l)).toArray)) := below_setRow HBel2.out.drew (Nat.le_refl _) _
      generalize (w1.drew.setRow g (splice row 1 (cellsB l)).toArray) = w3 at *
      have hcv := run_string_of (P := Try.prog) (bytes_row w3 g (0 :: l) 5 hb3.out N (by have := HF.out; simp; omega)) 57 9 5 und57 (by kernel_rfl) und9
      go_wp2_with fail
      all_goals
        go_ret
        exact ⟨rfl, by rw [← hrow.out.1]; exact hbel3.out⟩

end Go.Proofs.Ytdcdfhonkjmpeaa.Chunk
