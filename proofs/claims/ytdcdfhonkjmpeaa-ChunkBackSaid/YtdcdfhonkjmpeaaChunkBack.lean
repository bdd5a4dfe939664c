import Derived.Test.YtdcdfhonkjmpeaaChunkJoins
import Derived.Test.YtdcdfhonkjmpeaaChunkMany
import Derived.Deep.RegionHeld3
namespace Go.Proofs.Ytdcdfhonkjmpeaa.ChunkBack
open Go.ChangeShapes Go.WideShapes Go.ChangeAt Go.RowKit Go.Deep
set_option linter.unusedVariables false
open Chunk ChunkJoins

theorem owns_same {w w' : World} {B B' n : Nat} {v : Value} {xs : List Value} (h : w.ownsRow B' 9 1 v n xs) (hs : Same w w' B) (hB : B < B') : w'.ownsRow B' 9 1 v n xs := by
  obtain ⟨h1, h2⟩ := h
  refine ⟨h1, h2.imp id ?_⟩
  rintro ⟨g, cap, cur, h3, h4, h5, h6⟩
  exact ⟨g, cap, cur, h3, h4, (hs.block g (lt_of_block h5) (by omega) (.inr fun cs e => by rw [h5] at e; injection e with e; injection e with _ e; exact absurd e (by decide))).trans h5, h6⟩

/-- What the joiner keeps behind q of m pieces. -/
def keptOf (L : List UInt8) (k m q : Nat) : List UInt8 := if q = m then [] else L.take (q * k)

theorem piecesTo_get (L : List UInt8) (k m j q : Nat) (h : q < j) : (piecesTo L k m j)[q]? = some (pieceOf (decide (q + 1 = m)) ((L.drop (q * k)).take k)) := by
  simp [piecesTo, List.getElem?_range h]

theorem own_at {w : World} {B n : Nat} {v : Value} {l : List ByteArray} (h : w.ownsRow B 9 1 v n (Chunk.strs l)) (q : Nat) (y : ByteArray) (hq : l[q]? = some y) :
    ∃ g cap, v = .slice (some ⟨g, 0, none⟩) n cap ∧ w.cell? ⟨g, q, none⟩ = some (.string y) := by
  have hn : n = l.length := by have := h.1; simp [Chunk.strs] at this; omega
  have hql : q < l.length := (List.getElem?_eq_some_iff.1 hq).1
  rcases own_cell h with ⟨h3, h4⟩ | ⟨g, cap, h3, h4, h5, h6, h7⟩
  · omega
  · exact ⟨g, cap, h3, h7 q y hq⟩

theorem take_more (L : List UInt8) (k q : Nat) : L.take (q * k) ++ (L.drop (q * k)).take k = L.take ((q + 1) * k) := by
  rw [Nat.add_mul, Nat.one_mul, List.take_add]

set_option maxRecDepth 100000 in
set_option maxHeartbeats 12800000 in
theorem walk (w : World) (A : Option Addr) (n c : Nat) (hn : n ≤ c) (hc : c ≤ maxLen) (he : Elems w A n [IsStr, IsInt .u8]) :
    Calls Try.prog 6 #[.slice A n c] w fun e w' => e = .returned (.bool true) ∧ Below w.heap.size w w' := by
  clear hc
  have HE := Lib.hid he
  clear he
  obtain ⟨B, hB⟩ : ∃ g, w.heap.size = g := ⟨_, rfl⟩
  have hb0 : Below B w w := Below.refl _ _
  have hs0 : B ≤ w.heap.size := by omega
  have HG := Lib.hid hB
  clear hB
  go_enter Try.func6, Try.ntmps6
  go_wp2_with fail
  refine (new_ok 65536 (by omega) (by omega) _).mono ?_
  rintro e w1 ⟨rfl, hw1⟩
  rw [HG.out]
  have hj1 : Joi w1 B [] 65536 false := by rw [hw1, ← HG.out]; exact Joi.new w 65536
  have hb1 : Below B w w1 := by rw [hw1]; exact hb0.alloc hs0 _
  have hs1 : B ≤ w1.heap.size := Nat.le_trans hs0 hb1.size
  clear hw1
  go_wp2_with fail
  refine (awake_any _).mono ?_
  rintro e w2 ⟨rfl, hm2⟩
  have hj2 := hj1.below hm2
  have hb2 := hb1.trans (hm2.mono hs1)
  clear hj1 hb1 hs1 hm2 hb0
  go_wp2_with fail
  go_loopw [5] (fun i wr => ∃ (j : Nat), j ≤ n ∧ j ≤ 20 ∧ i = .int .i64 j ∧ Joi wr B [] 65536 false ∧ Below B w wr) (fun i _ => n - (intOf i).toNat)
  case atStart => exact ⟨0, Nat.zero_le _, Nat.zero_le _, rfl, hj2, hb2⟩
  case round =>
    clear hj2 hb2
    obtain ⟨j, hj, hj20, rfl, hjoi, hbel⟩ := hrel
    have hin : j < n ∧ j < 20 ∨ ¬ (j < n ∧ j < 20) := by omega
    rcases hin with ⟨hlt, h20⟩ | hout
    · obtain ⟨bb, off, rfl, hbw, hcell⟩ := HE.out (by omega)
      obtain ⟨v0, c0, x, rfl, hx⟩ := hcell j hlt 0 _ rfl
      obtain ⟨v1, c1, y, rfl, hy⟩ := hcell j hlt 1 _ rfl
      clear hcell
      have dw : w.cell? ⟨bb, off + j * 2, none⟩ = some (.string x) := by simpa using c0
      rw [← hbel.cell (p := ⟨bb, _, none⟩) (by rw [← HG.out]; exact hbw)] at c0 c1
      have d0 : wr.cell? ⟨bb, off + j * 2, none⟩ = some (.string x) := by simpa using c0
      have d1 : wr.cell? ⟨bb, off + j * 2 + 1, none⟩ = some (.int .u8 y) := by simpa using c1
      have hsz : B ≤ wr.heap.size := by rw [← HG.out]; exact hbel.size
      have hbB : bb < B := by rw [← HG.out]; exact hbw
      have hgs := hjoi.lt
      clear c0 c1 hbw
      have hyb := bounds_u8 hy
      clear hy hx
      have HJ := Lib.hid hjoi
      clear hjoi
      by_cases hbig : (3000 : Int) < (x.size : Int)
      · go_wp2_with fail
        go_roundw
        case rel => exact ⟨j + 1, by omega, by omega, by go_num, HJ.out, hbel⟩
        case measure => simp [intOf]; omega
      · skip
        have HBEL := Lib.hid hbel
        clear hbel
        obtain ⟨r, hr⟩ : ∃ r, y.tmod 255 = r := ⟨_, rfl⟩
        have hrb : 0 ≤ r ∧ r < 255 := by
          rw [← hr]
          exact ⟨Int.tmod_nonneg _ hyb.1, Int.tmod_lt_of_pos _ (by decide)⟩
        obtain ⟨k, hk⟩ : ∃ k : Nat, r + 1 = (k : Int) := ⟨(r + 1).toNat, by omega⟩
        obtain ⟨m, hm⟩ : ∃ m, m = manyN x.size k := ⟨_, rfl⟩
        have hk1 : 1 ≤ k := by omega
        have hx3 : x.size ≤ 3000 := by omega
        have hmp := manyN_pos x.size k
        have hml := manyN_le x.size k (by omega)
        rw [← hm] at hmp hml
        have hr2 : IntKind.u8.wrap r = r := IntWalk.u8_in _ (by omega)
        have hr3 : IntKind.i64.wrap r = r := IntWalk.i64_in _ (by omega)
        have hr4 : IntKind.i64.wrap (r + 2) = r + 2 := IntWalk.i64_in _ (by omega)
        have hcut := fun w => cut_ok x (r + 2) k m (by omega) hk1 (by omega) (by omega) hm w
        have HCUT := Lib.hid hcut
        clear hcut
        have HN := Lib.hid (And.intro hk1 (And.intro hx3 (And.intro hmp (And.intro hml hm))))
        clear hk1 hx3 hmp hm hk hrb hyb
        go_wp2_with fail
        go_region_held3 (fun w' => w'.cell? ⟨bb, off + j * 2, none⟩ = some (.string x) ∧ w'.cell? ⟨bb, off + j * 2 + 1, none⟩ = some (.int .u8 y)) (first | (go_simp; done) | exact ⟨q0, q1⟩)
          (first | (go_at_call 15; go_must (refine (HCUT.out _).mono ?_); rintro e w4 ⟨v, rfl, ho, hb⟩
                    have q0 : w4.cell? ⟨bb, off + j * 2, none⟩ = some (.string x) := (hb.cell (p := ⟨bb, _, none⟩) (Nat.lt_of_lt_of_le hbB hsz)).trans d0
                    have q1 : w4.cell? ⟨bb, off + j * 2 + 1, none⟩ = some (.int .u8 y) := (hb.cell (p := ⟨bb, _, none⟩) (Nat.lt_of_lt_of_le hbB hsz)).trans d1
                    have HO := Lib.hid (And.intro ho hb)
                    clear ho hb))
        obtain ⟨av, cv, rfl⟩ : ∃ a c, v = .slice a m c := by
          rcases HO.out.1.2 with ⟨h1, h2⟩ | ⟨gg, cap, cur, h1, _⟩
          · exact ⟨none, 0, by rw [h1, h2]⟩
          · exact ⟨_, cap, h1⟩
        have ho4 : w4.ownsRow (B + 1) 9 1 (.slice av m cv) m (Chunk.strs (piecesTo x.data.toList k m m)) := owns_base HO.out.1 hgs
        have hj4 : Joi w4 B [] 65536 false := (HJ.out.drewN 1).below HO.out.2
        have hb4 : Below B w w4 := (HBEL.out.drew).trans (HO.out.2.mono hsz)
        have hm0 : ¬ m = 0 := by have := HN.out; omega
        have hmz : ((m : Int) == 0) = false := by simp; omega
        have hkeep0 : keptOf x.data.toList k m 0 = [] := by unfold keptOf; split <;> simp
        rw [← hkeep0] at hj4
        clear HJ HBEL HO HCUT hkeep0 hsz hgs
        go_wp2_with fail
        try rw [hmz]
        go_loopw [8] (fun kq wr => ∃ (q : Nat), q ≤ m ∧ kq = .int .i64 q ∧ wr.ownsRow (B + 1) 9 1 (.slice av m cv) m (Chunk.strs (piecesTo x.data.toList k m m)) ∧ Joi wr B (keptOf x.data.toList k m q) 65536 false ∧ Below B w wr) (fun kq _ => m - (intOf kq).toNat)
        case atStart => exact ⟨0, Nat.zero_le _, rfl, ho4, hj4, hb4⟩
        case round =>
          clear ho4 hj4 hb4 d0 d1
          obtain ⟨q, hq, rfl, howr, hji, hbi⟩ := hrel
          have hrest := HN.out
          rcases (show q < m ∨ q = m by omega) with hqm | hqm
          · have hkq : keptOf x.data.toList k m q = x.data.toList.take (q * k) := by unfold keptOf; rw [if_neg (by omega)]
            rw [hkq] at hji
            obtain ⟨gp, cp, hva, hpc⟩ := own_at howr q _ (piecesTo_get _ k m m q hqm)
            injection hva with hva1 hva2 hva3
            subst hva1 hva3
            have hgi := hji.lt
            have hxl := size_list x
            have e0 : wr.cell? ⟨bb, off + j * 2, none⟩ = some (.string x) := (hbi.cell (p := ⟨bb, _, none⟩) hbB).trans dw
            have hdd : ∀ w4, Same wr w4 B → w4.cell? ⟨bb, off + j * 2, none⟩ = some (.string x) := fun w4 h => cells_same h hbB hgi _ e0
            have hbl : ∀ w4, Same wr w4 B → Below B w w4 := fun w4 h => Same.under hbi h (Nat.le_refl _) hgi
            have hol : ∀ w4, Same wr w4 B → w4.ownsRow (B + 1) 9 1 (.slice (some ⟨gp, 0, none⟩) m cv) m (Chunk.strs (piecesTo x.data.toList k m m)) := fun w4 h => owns_same howr h (Nat.lt_succ_self _)
            have hfit : ¬ (65536 : Int) - ((x.data.toList.take (q * k)).length : Int) < (((x.data.toList.drop (q * k)).take k).length : Int) := by
              simp only [List.length_take, List.length_drop, hxl]
              omega
            rcases (show q + 1 = m ∨ ¬ q + 1 = m by omega) with hla | hla
            · have hla' : decide (q + 1 = m) = true := by simp [hla]
              rw [hla'] at hpc
              have hadd := joi_keep B _ 65536 _ wr 0 _ true (rfl : (pieceOf true ((x.data.toList.drop (q * k)).take k)).data.toList = _) rfl (by decide) hfit hji
              rw [take_more] at hadd
              have hall : (⟨(x.data.toList.take ((q + 1) * k)).toArray⟩ : ByteArray) = x := by
                have h2 := (ChunkMany.manyN_low x.size k hrest.1).2.1
                rw [← hrest.2.2.2.2, ← hla] at h2
                rw [List.take_of_length_le (by rw [hxl]; exact h2)]
              rw [hall] at hadd
              have hwq : IntKind.i64.wrap ((m : Int) - 1) = (q : Int) := by rw [IntWalk.i64_in _ (by omega)]; omega
              clear hla'
              have HLA := Lib.hid hla
              clear hla
              have HADD := Lib.hid hadd
              have HSS := Lib.hid (And.intro hdd (And.intro hbl hol))
              clear hadd hdd hbl hol hfit howr hji hbi hkq hrest hxl
              go_wp2_with fail
              refine HADD.out.mono ?_
              rintro e w6 ⟨rfl, hj6, hs6⟩
              have d6 := HSS.out.1 _ hs6
              have hb6 := HSS.out.2.1 _ hs6
              have ho6 := HSS.out.2.2 _ hs6
              clear hs6 e0 hpc
              have HR := Lib.hid (And.intro hj6 (And.intro hb6 ho6))
              clear hj6 hb6 ho6
              go_wp2_with fail
              go_roundw
              case rel => exact ⟨q + 1, by omega, by go_num, HR.out.2.2, by unfold keptOf; rw [if_pos HLA.out]; exact HR.out.1, HR.out.2.1⟩
              case measure => simp [intOf]; omega
            · have hla' : decide (q + 1 = m) = false := by simp [hla]
              rw [hla'] at hpc
              have hadd := joi_keep B _ 65536 _ wr 1 _ false (rfl : (pieceOf false ((x.data.toList.drop (q * k)).take k)).data.toList = _) rfl (by decide) hfit hji
              rw [take_more] at hadd
              have hkn : keptOf x.data.toList k m (q + 1) = x.data.toList.take ((q + 1) * k) := by unfold keptOf; rw [if_neg hla]
              rw [← hkn] at hadd
              have hwq : IntKind.i64.wrap ((m : Int) - 1) = (m : Int) - 1 := IntWalk.i64_in _ (by omega)
              have hqn : ¬ (q : Int) = (m : Int) - 1 := by omega
              have HADD := Lib.hid hadd
              have HSS := Lib.hid (And.intro hdd (And.intro hbl hol))
              clear hadd hdd hbl hol hfit howr hji hbi hkq hrest hxl
              go_wp2_with fail
              refine HADD.out.mono ?_
              rintro e w6 ⟨rfl, hj6, hs6⟩
              have d6 := HSS.out.1 _ hs6
              have hb6 := HSS.out.2.1 _ hs6
              have ho6 := HSS.out.2.2 _ hs6
              clear hs6 e0 hpc
              have HR := Lib.hid (And.intro hj6 (And.intro hb6 ho6))
              clear hj6 hb6 ho6
              go_wp2_with fail
              go_roundw
              case rel => exact ⟨q + 1, by omega, by go_num, HR.out.2.2, HR.out.1, HR.out.2.1⟩
              case measure => simp [intOf]; omega
          · subst hqm
            have hkq : keptOf x.data.toList k q q = [] := by unfold keptOf; rw [if_pos rfl]
            rw [hkq] at hji
            have HJI := Lib.hid hji
            clear hji
            have HBI := Lib.hid hbi
            clear hbi
            clear howr hrest hkq
            go_wp2_with fail
            go_roundw
            case rel => exact ⟨j + 1, by omega, by omega, by go_num, HJI.out, HBI.out⟩
            case measure => simp [intOf]; omega
    · have hfin : ∀ w9, Below w9.heap.size w9 w9 := fun _ => Below.refl _ _
      by_cases hlt : j < n
      · have h20 : ¬ j < 20 := by omega
        clear hout hfin
        have HJ := Lib.hid hjoi
        clear hjoi
        have HBEL := Lib.hid hbel
        clear hbel
        go_wp2_with fail
        refine (add_nil _ _).mono ?_
        rintro e w4 ⟨rfl, hb4⟩
        have hj4 := HJ.out.below hb4
        have hb4 := HBEL.out.trans (hb4.mono (by have := HJ.out.lt; omega))
        go_wp2_with fail
        refine (joi_kept hj4).mono ?_
        rintro e wx ⟨rfl, rfl⟩
        go_wp2_with fail
        refine (kept_nil _).mono ?_
        rintro e wx ⟨rfl, rfl⟩
        go_wp2_with fail
        refine (broken_nil _).mono ?_
        rintro e wx ⟨rfl, rfl⟩
        go_wp2_with fail
        go_ret
        exact ⟨rfl, HG.out ▸ hb4⟩
      · clear hout hfin
        have HJ := Lib.hid hjoi
        clear hjoi
        have HBEL := Lib.hid hbel
        clear hbel
        go_wp2_with fail
        refine (add_nil _ _).mono ?_
        rintro e w4 ⟨rfl, hb4⟩
        have hj4 := HJ.out.below hb4
        have hb4 := HBEL.out.trans (hb4.mono (by have := HJ.out.lt; omega))
        go_wp2_with fail
        refine (joi_kept hj4).mono ?_
        rintro e wx ⟨rfl, rfl⟩
        go_wp2_with fail
        refine (kept_nil _).mono ?_
        rintro e wx ⟨rfl, rfl⟩
        go_wp2_with fail
        refine (broken_nil _).mono ?_
        rintro e wx ⟨rfl, rfl⟩
        go_wp2_with fail
        go_ret
        exact ⟨rfl, HG.out ▸ hb4⟩

end Go.Proofs.Ytdcdfhonkjmpeaa.ChunkBack
