import Derived.Test.YtebiidfpgdolnaaDoorNb
import Derived.Test.YtebiidfpgdolnaaDoorNc
import Derived.Test.YtebiidfpgdolnaaDoorNd
import Derived.Test.YtebiidfpgdolnaaDoorNe
import Derived.Test.YtebiidfpgdolnaaDoorNf
namespace Go.Proofs.YtebiidfpgdolnaaDoor.Dmp
open Go.ChangeShapes Go.WideShapes Go.ChangeAt Go.RowKit Go.Deep
set_option linter.unusedVariables false
open Go.Lib Go.Shelf
set_option linter.unusedSimpArgs false

theorem dguess_any (ws : List ByteArray) (v : Value) (hne : 0 < ws.length) (hw : ws.length ≤ 30000) (hz : ∀ y ∈ ws, y.size ≤ 100000) (w : World) (h : RdS w v ws) :
    Calls Tryd.prog 31 #[v] w fun e w' => ∃ (f : Fr) (pv : Value), e = .returned (.agg (fcells f pv)) ∧ PsA w' w.heap.size pv f.ps ∧ f.ps.length ≤ ws.length ∧ GuessIs ws f ∧ Below w.heap.size w w' := by
  obtain ⟨h1, h2, -⟩ := typI_is (atB ws 0)
  obtain ⟨t, ht⟩ : ∃ t, typI (atB ws 0) = t := ⟨_, rfl⟩
  rw [ht] at h1 h2
  have hc : t = -1 ∨ t = 0 ∨ t = 1 ∨ t = 2 ∨ t = 3 ∨ t = 4 ∨ t = 5 ∨ t = 6 ∨ t = 7 ∨ t = 8 ∨ t = 9 ∨ t = 10 ∨ t = 11 := by omega
  rcases hc with rfl | rfl | rfl | rfl | rfl | rfl | rfl | rfl | rfl | rfl | rfl | rfl | rfl
  · exact gs_none ws v hne hw hz w h ht
  · exact gs_0 ws v hne hw hz w h ht
  · exact gs_1 ws v hne hw hz w h ht
  · exact gs_2 ws v hne hw hz w h ht
  · exact gs_3 ws v hne hw hz w h ht
  · exact gs_4 ws v hne hw hz w h ht
  · exact gs_5 ws v hne hw hz w h ht
  · exact gs_6 ws v hne hw hz w h ht
  · exact gs_7 ws v hne hw hz w h ht
  · exact gs_8 ws v hne hw hz w h ht
  · exact gs_9 ws v hne hw hz w h ht
  · exact gs_10 ws v hne hw hz w h ht
  · exact gs_11 ws v hne hw hz w h ht

/-- The results are a struct's row and a slot. -/
theorem results_cell_slot {P : Program} {fn : Func} {p q : Tmp} {ty : TypeId} (h : fn.results = #[.cell p ty, .tmp q]) (tmps : Array Value) (w : World) (g : Nat) (t : TypeId) (cs : Array Value) (fr : Nat × Nat) (d : TypeDesc)
    (hp : tmps.getD p undef = .pointer (some ⟨g, 0, none⟩)) (hg : w.heap[g]? = some (.cells cs t fr))
    (hu : P.underlying ty = some d) (hd : (match d with | .struct _ | .array _ _ => true | _ => false) = true) (hi : (P.info? ty).map (·.size) = some cs.size) (v : Value) (hv : tmps.getD q undef = v) :
    (results fn tmps).run P w = .ok (.tuple #[.agg cs, v]) w := by
  subst hv
  have hp' : tmps[p]?.getD undef = .pointer (some ⟨g, 0, none⟩) := by simpa using hp
  simp [results, h, hp', asAddr, run_loadVar_row w g t ty cs fr d hg hu hd hi]

/-! ### No word has a space -/
theorem hxd_32 (r : Nat) (h : r < 16) : hxd r ≠ 32 := by
  have hc : ((List.range 16).all fun n => decide (hxd n ≠ 32)) = true := by kernel_rfl
  exact of_decide_eq_true (List.all_eq_true.mp hc r (List.mem_range.mpr h))
theorem hexB_32 (s : ByteArray) : (32 : UInt8) ∉ (hexB s).data.toList := by
  intro h
  by_cases h0 : s = ByteArray.empty
  · rw [h0] at h
    revert h
    decide
  · rw [hexB_list h0 rfl] at h
    unfold hexL at h
    obtain ⟨u, -, hu⟩ := List.mem_flatMap.1 h
    have h256 : u.toNat < 256 := UInt8.toNat_lt _
    unfold hx1 at hu
    simp only [List.mem_cons, List.mem_nil_iff, or_false] at hu
    rcases hu with hu | hu
    · exact hxd_32 _ (by omega) hu.symm
    · exact hxd_32 _ (by omega) hu.symm
theorem dgN_32 (k : Int) : (32 : UInt8) ∉ (dgN k).data.toList := by
  intro h
  rw [dgN_list] at h
  have := digL_mem _ _ h
  have e : (32 : UInt8).toNat = 32 := rfl
  omega
theorem pkB_32 {b : Bool} {x y : ByteArray} (hx : (32 : UInt8) ∉ x.data.toList) (hy : (32 : UInt8) ∉ y.data.toList) : (32 : UInt8) ∉ (pkB b x y).data.toList := by
  cases b
  · exact hy
  · exact hx
theorem setW_32 (p : Int × Int) : (32 : UInt8) ∉ (setW p).data.toList := by
  intro h
  unfold setW at h
  rw [ByteArray.data_append, ByteArray.data_append] at h
  simp only [Array.toList_append, List.mem_append] at h
  rcases h with (h | h) | h
  · exact dgN_32 _ h
  · revert h; decide
  · exact dgN_32 _ h
theorem words_32 (ty st : Int) (en : Bool) (da : ByteArray) (ki on we : Int) (ex : Bool) (co la n : Int) (ps : List (Int × Int)) (hC : checkB ⟨ty, st, en, da, ki, on, we, ex, co, la, n, ps⟩ = true) : ∀ x ∈ wordsB ⟨ty, st, en, da, ki, on, we, ex, co, la, n, ps⟩, (32 : UInt8) ∉ x.data.toList := by
  obtain ⟨hF, hty⟩ := fits_of_check _ _ _ _ _ _ _ _ _ _ _ _ hC
  have hc : ty = 0 ∨ ty = 1 ∨ ty = 2 ∨ ty = 3 ∨ ty = 4 ∨ ty = 5 ∨ ty = 6 ∨ ty = 7 ∨ ty = 8 ∨ ty = 9 ∨ ty = 10 ∨ ty = 11 := by omega
  have hd := dgN_32
  have hh := hexB_32
  rcases hc with rfl | rfl | rfl | rfl | rfl | rfl | rfl | rfl | rfl | rfl | rfl | rfl
  case inr.inr.inr.inr.inr.inl =>
    intro x hx
    have hx' : x ∈ (⟨#[115, 101, 116, 116, 105, 110, 103, 115]⟩ : ByteArray) :: ps.map setW := hx
    rcases List.mem_cons.1 hx' with rfl | hx'
    · decide
    · obtain ⟨p, -, rfl⟩ := List.mem_map.1 hx'
      exact setW_32 p
  all_goals
    intro x hx
    simp only [wordsB, Int.reduceEq, ↓reduceIte, List.mem_cons, List.mem_nil_iff, or_false] at hx
    (repeat' (rcases hx with rfl | hx))
    all_goals
      first
        | exact hd _
        | exact hh _
        | decide
        | exact pkB_32 (by decide) (by decide)
/-- A right frame's line is cut into its words. -/
theorem line_spl {g : Fr} (hC : checkB g = true) : splB 32 (lineB g) = wordsB g := by
  obtain ⟨ty, st, en, da, ki, on, we, ex, co, la, n, ps⟩ := g
  rw [← join_line _ _ _ _ _ _ _ _ _ _ _ _ hC]
  exact spl_joinB 32 _ (fun h => by have := (words_len _ _ _ _ _ _ _ _ _ _ _ _ hC).1; rw [h] at this; simp at this) (words_32 _ _ _ _ _ _ _ _ _ _ _ _ hC)
theorem guess_line {s : ByteArray} {f : Fr} (h : GuessIs (splB 32 s) f) {g : Fr} (hC : checkB g = true) (hs : lineB g = s) : f = g :=
  h g hC (by rw [← hs, line_spl hC])

theorem splB_len (c : UInt8) (s : ByteArray) : 0 < (splB c s).length ∧ (splB c s).length ≤ s.size + 1 := by
  have h1 := spl_ne c s.data.toList
  have h2 := spl_len c s.data.toList
  have h3 : s.data.toList.length = s.size := by simp
  have h4 : (splB c s).length = (spl c s.data.toList).length := by simp [splB]
  rw [h4]
  exact ⟨List.length_pos_iff.2 h1, by omega⟩
theorem splB_le (c : UInt8) (s : ByteArray) : ∀ y ∈ splB c s, y.size ≤ s.size := by
  intro y hy
  obtain ⟨l, hl, rfl⟩ := List.mem_map.1 hy
  have h1 := spl_le c _ l hl
  have h3 : s.data.toList.length = s.size := by simp
  show l.toArray.size ≤ _
  simp
  omega
/-- A row of strings in a new block, as a slice of strings. -/
theorem RdS.new (w : World) (l : List ByteArray) : RdS (w.alloc (.cells (strW l).toArray 9)) (.slice (some ⟨w.heap.size, 0, none⟩) l.length l.length) l := by
  refine ⟨some ⟨w.heap.size, 0, none⟩, l.length, rfl, Nat.le_refl _, by simp [strW], (fun e => by cases e), fun b hb _ => ?_⟩
  injection hb with hb
  subst hb
  refine ⟨rfl, Nat.zero_le _, by simp, row_cells (Blk.new w 9 _)⟩

end Go.Proofs.YtebiidfpgdolnaaDoor.Dmp

namespace Go.Proofs.YtebiidfpgdolnaaDoor.Dmp
open Go.ChangeShapes Go.WideShapes Go.ChangeAt Go.RowKit Go.Deep
set_option linter.unusedVariables false
open Go.Lib Go.Shelf
set_option linter.unusedSimpArgs false

def F0 : Fr := ⟨0, 0, false, ⟨#[]⟩, 0, 0, 0, false, 0, 0, 0, []⟩
/-- What a parser of a line answers: the one frame of the line, or none. -/
def ParsedTo (s : ByteArray) (lo : Nat) (e : Ending) (w' : World) : Prop :=
  (∃ (f : Fr) (pv : Value), checkB f = true ∧ lineB f = s ∧ (∀ g, checkB g = true → lineB g = s → f = g) ∧ e = .returned (.tuple #[.agg (fcells f pv), .int .i64 0]) ∧ PsA w' lo pv f.ps) ∨
  ((∀ g, checkB g = true → lineB g ≠ s) ∧ e = .returned (.tuple #[.agg (fcells F0 (.slice none 0 0)), .int .i64 30]))

set_option maxRecDepth 100000 in
set_option maxHeartbeats 800000 in
theorem dparse_any (s : ByteArray) (hs : s.size ≤ 25000) (w : World) : Calls Tryd.prog 12 #[.string s] w fun e w' => ParsedTo s w.heap.size e w' ∧ Below w.heap.size w w' := by
  have hl := splB_len 32 s
  have hle := splB_le 32 s
  have hsp := split_any 32 s (by omega) (w.alloc (.cells #[.int .i64 0, .int .i64 0, .bool false, .string ⟨#[]⟩, .int .i64 0, .int .i64 0, .int .i64 0, .bool false, .int .i64 0, .int .i64 0, .int .i64 0, .slice none 0 0] 26))
  have hrd := RdS.new (w.alloc (.cells #[.int .i64 0, .int .i64 0, .bool false, .string ⟨#[]⟩, .int .i64 0, .int .i64 0, .int .i64 0, .bool false, .int .i64 0, .int .i64 0, .int .i64 0, .slice none 0 0] 26)) (splB 32 s)
  have hgu := dguess_any (splB 32 s) _ hl.1 (by omega) (fun y hy => Nat.le_trans (hle y hy) (by omega)) _ hrd
  have hbe : Below w.heap.size w ((w.alloc (.cells #[.int .i64 0, .int .i64 0, .bool false, .string ⟨#[]⟩, .int .i64 0, .int .i64 0, .int .i64 0, .bool false, .int .i64 0, .int .i64 0, .int .i64 0, .slice none 0 0] 26)).alloc (.cells (strW (splB 32 s)).toArray 9)) := Below.step (Below.step (Below.refl _ _) _) _
  have hkr : Blk ((w.alloc (.cells #[.int .i64 0, .int .i64 0, .bool false, .string ⟨#[]⟩, .int .i64 0, .int .i64 0, .int .i64 0, .bool false, .int .i64 0, .int .i64 0, .int .i64 0, .slice none 0 0] 26)).alloc (.cells (strW (splB 32 s)).toArray 9)) w.heap.size 26 #[.int .i64 0, .int .i64 0, .bool false, .string ⟨#[]⟩, .int .i64 0, .int .i64 0, .int .i64 0, .bool false, .int .i64 0, .int .i64 0, .int .i64 0, .slice none 0 0] := (Blk.new w 26 _).alloc _
  obtain ⟨ln, hln⟩ : ∃ ln, (splB 32 s).length = ln := ⟨_, rfl⟩
  have e1 : (w.alloc (.cells #[.int .i64 0, .int .i64 0, .bool false, .string ⟨#[]⟩, .int .i64 0, .int .i64 0, .int .i64 0, .bool false, .int .i64 0, .int .i64 0, .int .i64 0, .slice none 0 0] 26)).heap.size = w.heap.size + 1 := by simp
  rw [hln, e1] at hsp hgu
  clear e1
  have HX := Lib.hid (And.intro hsp (And.intro hgu (And.intro hbe (And.intro hkr (And.intro hl hln)))))
  clear hsp hgu hbe hkr hl hle hrd hln
  go_enter Tryd.func12, Tryd.ntmps12
  go_wp2_with fail
  refine HX.out.1.mono ?_
  rintro e1 w1 ⟨rfl, rfl⟩
  go_wp2_with fail
  refine HX.out.2.1.mono ?_
  rintro e2 w2 ⟨f, pv, rfl, hps, hpl, hgs, hm2⟩
  have hb2 := HX.out.2.2.1.trans (hm2.mono HX.out.2.2.1.size)
  have kR := HX.out.2.2.2.1.below hm2 HX.out.2.2.2.1.lt
  obtain ⟨ty, st, en, da, ki, on, we, ex, co, la, n, ps⟩ := f
  obtain ⟨pa, pc, rfl, -, -, -⟩ := RdL.cap_of hps
  simp only at hpl
  have hn : ps.length ≤ 30000 := by have := HX.out.2.2.2.2.1; have := HX.out.2.2.2.2.2; omega
  have hps0 : RdL w2 (w.heap.size + 1) 2 _ ps.length (prs ps) := RdL.weak hps (by simp)
  have hps1 := RdL.below hps0 (Below.step (Below.refl w2.heap.size w2) (.cells #[.int .i64 ty, .int .i64 st, .bool en, .string da, .int .i64 ki, .int .i64 on, .int .i64 we, .bool ex, .int .i64 co, .int .i64 la, .int .i64 n, .slice pa ps.length pc] 26))
  have hli := dline_any ty st en da ki on we ex co la n _ ps hn _ (RdL.weak hps1 (Nat.zero_le _))
  have hb3 : Below w.heap.size w (w2.alloc (.cells #[.int .i64 ty, .int .i64 st, .bool en, .string da, .int .i64 ki, .int .i64 on, .int .i64 we, .bool ex, .int .i64 co, .int .i64 la, .int .i64 n, .slice pa ps.length pc] 26)) := hb2.alloc hb2.size _
  have kF := Blk.new w2 26 #[.int .i64 ty, .int .i64 st, .bool en, .string da, .int .i64 ki, .int .i64 on, .int .i64 we, .bool ex, .int .i64 co, .int .i64 la, .int .i64 n, .slice pa ps.length pc]
  have kR3 := kR.alloc (.cells #[.int .i64 ty, .int .i64 st, .bool en, .string da, .int .i64 ki, .int .i64 on, .int .i64 we, .bool ex, .int .i64 co, .int .i64 la, .int .i64 n, .slice pa ps.length pc] 26)
  simp only [fcells]
  obtain ⟨pl, hpl⟩ : ∃ pl, ps.length = pl := ⟨_, rfl⟩
  rw [hpl] at hli hb3 kF kR3 hps1 ⊢
  have HL := Lib.hid (And.intro hli (And.intro hb3 (And.intro kF (And.intro kR3 (And.intro hps1 (And.intro hgs hpl))))))
  clear hli hb3 kF kR3 hps1 hps0 hgs hb2 kR hps hm2 hpl
  go_wp2_with fail
  have hbad : (checkB ⟨ty, st, en, da, ki, on, we, ex, co, la, n, ps⟩ = true → lineB ⟨ty, st, en, da, ki, on, we, ex, co, la, n, ps⟩ ≠ s) → ∀ g, checkB g = true → lineB g ≠ s := fun h g hg hs => by
    have e := guess_line HL.out.2.2.2.2.2.1 hg hs
    rw [← e] at hg hs
    exact h hg hs
  cases hC : checkB ⟨ty, st, en, da, ki, on, we, ex, co, la, n, ps⟩ with
  | false =>
    have hE : checkE ⟨ty, st, en, da, ki, on, we, ex, co, la, n, ps⟩ = 2 := by unfold checkE; rw [hC]; rfl
    have hR : lineR ⟨ty, st, en, da, ki, on, we, ex, co, la, n, ps⟩ = ByteArray.empty := by unfold lineR; rw [hC]; rfl
    have hno := hbad (fun h => by rw [hC] at h; cases h)
    clear hbad
    have hli := HL.out.1
    rw [hE, hR] at hli
    refine hli.mono ?_
    rintro e3 w3 ⟨rfl, hm3⟩
    have kR := HL.out.2.2.2.1.below hm3 HL.out.2.2.2.1.lt
    have kF := HL.out.2.2.1.below hm3 HL.out.2.2.1.lt
    have hb := HL.out.2.1.trans (hm3.mono HL.out.2.1.size)
    have hps := RdL.below HL.out.2.2.2.2.1 hm3
    have r0 := kR.cell 0
    have z0 := kR.frozen 0
    have r1 := kR.cell 1
    have z1 := kR.frozen 1
    have r2 := kR.cell 2
    have z2 := kR.frozen 2
    have r3 := kR.cell 3
    have z3 := kR.frozen 3
    have r4 := kR.cell 4
    have z4 := kR.frozen 4
    have r5 := kR.cell 5
    have z5 := kR.frozen 5
    have r6 := kR.cell 6
    have z6 := kR.frozen 6
    have r7 := kR.cell 7
    have z7 := kR.frozen 7
    have r8 := kR.cell 8
    have z8 := kR.frozen 8
    have r9 := kR.cell 9
    have z9 := kR.frozen 9
    have r10 := kR.cell 10
    have z10 := kR.frozen 10
    have r11 := kR.cell 11
    have z11 := kR.frozen 11
    have KR := Lib.hid (And.intro kR (And.intro hb (And.intro hps hno)))
    clear kR kF hb hps hm3 hli hno hE hR hC
    go_wp2_with fail
    exact bodyPost_ret (v := .tuple #[.agg #[.int .i64 0, .int .i64 0, .bool false, .string ⟨#[]⟩, .int .i64 0, .int .i64 0, .int .i64 0, .bool false, .int .i64 0, .int .i64 0, .int .i64 0, .slice none 0 0], .int .i64 30]) (results_cell_slot rfl _ _ w.heap.size 26 #[.int .i64 0, .int .i64 0, .bool false, .string ⟨#[]⟩, .int .i64 0, .int .i64 0, .int .i64 0, .bool false, .int .i64 0, .int .i64 0, .int .i64 0, .slice none 0 0] (0, 0) _ rfl (Blk.put12 KR.out.1) Tryd.underlying26 rfl (by kernel_rfl) _ rfl) rfl ⟨Or.inr ⟨KR.out.2.2.2, rfl⟩, Below.put12 KR.out.2.1 (Nat.le_refl _)⟩
  | true =>
    have hE : checkE ⟨ty, st, en, da, ki, on, we, ex, co, la, n, ps⟩ = 0 := by unfold checkE; rw [hC]; rfl
    have hR : lineR ⟨ty, st, en, da, ki, on, we, ex, co, la, n, ps⟩ = lineB ⟨ty, st, en, da, ki, on, we, ex, co, la, n, ps⟩ := by unfold lineR; rw [hC]; rfl
    by_cases hls : lineB ⟨ty, st, en, da, ki, on, we, ex, co, la, n, ps⟩ = s
    · have hno : checkB ⟨ty, st, en, da, ki, on, we, ex, co, la, n, ps⟩ = true ∧ lineB ⟨ty, st, en, da, ki, on, we, ex, co, la, n, ps⟩ = s := ⟨hC, hls⟩
      rw [hls] at hR
      clear hbad hls
      have hli := HL.out.1
      rw [hE, hR] at hli
      refine hli.mono ?_
      rintro e3 w3 ⟨rfl, hm3⟩
      have kR := HL.out.2.2.2.1.below hm3 HL.out.2.2.2.1.lt
      have kF := HL.out.2.2.1.below hm3 HL.out.2.2.1.lt
      have hb := HL.out.2.1.trans (hm3.mono HL.out.2.1.size)
      have hps := RdL.below HL.out.2.2.2.2.1 hm3
      have r0 := kR.cell 0
      have z0 := kR.frozen 0
      have r1 := kR.cell 1
      have z1 := kR.frozen 1
      have r2 := kR.cell 2
      have z2 := kR.frozen 2
      have r3 := kR.cell 3
      have z3 := kR.frozen 3
      have r4 := kR.cell 4
      have z4 := kR.frozen 4
      have r5 := kR.cell 5
      have z5 := kR.frozen 5
      have r6 := kR.cell 6
      have z6 := kR.frozen 6
      have r7 := kR.cell 7
      have z7 := kR.frozen 7
      have r8 := kR.cell 8
      have z8 := kR.frozen 8
      have r9 := kR.cell 9
      have z9 := kR.frozen 9
      have r10 := kR.cell 10
      have z10 := kR.frozen 10
      have r11 := kR.cell 11
      have z11 := kR.frozen 11
      have a0 := kF.cell 0
      have a1 := kF.cell 1
      have a2 := kF.cell 2
      have a3 := kF.cell 3
      have a4 := kF.cell 4
      have a5 := kF.cell 5
      have a6 := kF.cell 6
      have a7 := kF.cell 7
      have a8 := kF.cell 8
      have a9 := kF.cell 9
      have a10 := kF.cell 10
      have a11 := kF.cell 11
      have KR := Lib.hid (And.intro kR (And.intro hb (And.intro hps hno)))
      clear kR kF hb hps hm3 hli hno hE hR hC
      go_wp2_with fail
      refine bodyPost_ret (v := .tuple #[.agg #[.int .i64 ty, .int .i64 st, .bool en, .string da, .int .i64 ki, .int .i64 on, .int .i64 we, .bool ex, .int .i64 co, .int .i64 la, .int .i64 n, .slice pa pl pc], .int .i64 0]) (results_cell_slot rfl _ _ w.heap.size 26 #[.int .i64 ty, .int .i64 st, .bool en, .string da, .int .i64 ki, .int .i64 on, .int .i64 we, .bool ex, .int .i64 co, .int .i64 la, .int .i64 n, .slice pa pl pc] (0, 0) _ rfl (Blk.put12 KR.out.1) Tryd.underlying26 rfl (by kernel_rfl) _ rfl) rfl ⟨Or.inl ⟨⟨ty, st, en, da, ki, on, we, ex, co, la, n, ps⟩, .slice pa pl pc, KR.out.2.2.2.1, KR.out.2.2.2.2, fun g hg hs => guess_line HL.out.2.2.2.2.2.1 hg hs, rfl, ?_⟩, Below.put12 KR.out.2.1 (Nat.le_refl _)⟩
      have hpl := HL.out.2.2.2.2.2.2
      show RdL (put12 w3 w.heap.size (.int .i64 ty) (.int .i64 st) (.bool en) (.string da) (.int .i64 ki) (.int .i64 on) (.int .i64 we) (.bool ex) (.int .i64 co) (.int .i64 la) (.int .i64 n) (.slice pa pl pc)) w.heap.size 2 (.slice pa pl pc) ps.length (prs ps)
      rw [hpl]
      exact RdL.weak (RdL.put12 KR.out.2.2.1 (Nat.lt_succ_self _)) (Nat.le_succ _)
    · have hno := hbad (fun _ => hls)
      obtain ⟨lx, hlx⟩ : ∃ x, lineB ⟨ty, st, en, da, ki, on, we, ex, co, la, n, ps⟩ = x := ⟨_, rfl⟩
      rw [hlx] at hR hls
      have hq := teq_false hls
      clear hbad hls hlx
      have hli := HL.out.1
      rw [hE, hR] at hli
      refine hli.mono ?_
      rintro e3 w3 ⟨rfl, hm3⟩
      have kR := HL.out.2.2.2.1.below hm3 HL.out.2.2.2.1.lt
      have kF := HL.out.2.2.1.below hm3 HL.out.2.2.1.lt
      have hb := HL.out.2.1.trans (hm3.mono HL.out.2.1.size)
      have hps := RdL.below HL.out.2.2.2.2.1 hm3
      have r0 := kR.cell 0
      have z0 := kR.frozen 0
      have r1 := kR.cell 1
      have z1 := kR.frozen 1
      have r2 := kR.cell 2
      have z2 := kR.frozen 2
      have r3 := kR.cell 3
      have z3 := kR.frozen 3
      have r4 := kR.cell 4
      have z4 := kR.frozen 4
      have r5 := kR.cell 5
      have z5 := kR.frozen 5
      have r6 := kR.cell 6
      have z6 := kR.frozen 6
      have r7 := kR.cell 7
      have z7 := kR.frozen 7
      have r8 := kR.cell 8
      have z8 := kR.frozen 8
      have r9 := kR.cell 9
      have z9 := kR.frozen 9
      have r10 := kR.cell 10
      have z10 := kR.frozen 10
      have r11 := kR.cell 11
      have z11 := kR.frozen 11
      have KR := Lib.hid (And.intro kR (And.intro hb (And.intro hps hno)))
      clear kR kF hb hps hm3 hli hno hE hR hC
      go_wp2_with fail
      exact bodyPost_ret (v := .tuple #[.agg #[.int .i64 0, .int .i64 0, .bool false, .string ⟨#[]⟩, .int .i64 0, .int .i64 0, .int .i64 0, .bool false, .int .i64 0, .int .i64 0, .int .i64 0, .slice none 0 0], .int .i64 30]) (results_cell_slot rfl _ _ w.heap.size 26 #[.int .i64 0, .int .i64 0, .bool false, .string ⟨#[]⟩, .int .i64 0, .int .i64 0, .int .i64 0, .bool false, .int .i64 0, .int .i64 0, .int .i64 0, .slice none 0 0] (0, 0) _ rfl (Blk.put12 KR.out.1) Tryd.underlying26 rfl (by kernel_rfl) _ rfl) rfl ⟨Or.inr ⟨KR.out.2.2.2, rfl⟩, Below.put12 KR.out.2.1 (Nat.le_refl _)⟩

end Go.Proofs.YtebiidfpgdolnaaDoor.Dmp

namespace Go.Proofs.YtebiidfpgdolnaaDoor.Dmp
open Go.ChangeShapes Go.WideShapes Go.ChangeAt Go.RowKit Go.Deep
set_option linter.unusedVariables false
open Go.Lib Go.Shelf
set_option linter.unusedSimpArgs false

def A1 : Fr := ⟨0, 3, true, ⟨#[97, 98]⟩, 0, 0, 0, false, 0, 0, 0, []⟩
def A2 : Fr := ⟨5, 0, false, ⟨#[]⟩, 0, 0, 0, false, 0, 0, 0, [(1, 70)]⟩
theorem digs3 : digs 3 = ⟨#[51]⟩ := by rw [digs_lt (by decide)]; rfl
theorem digs1 : digs 1 = ⟨#[49]⟩ := by rw [digs_lt (by decide)]; rfl
theorem digs70 : digs 70 = ⟨#[55, 48]⟩ := by
  rw [digs_ge (by decide), show (70 / 10 : Nat) = 7 from rfl, show (70 % 10 : Nat) = 0 from rfl, digs_lt (by decide)]; rfl
theorem A1_check : checkB A1 = true := by decide
theorem A2_check : checkB A2 = true := by decide
theorem A1_line : lineB A1 = ⟨#[100, 97, 116, 97, 32, 51, 32, 54, 49, 54, 50, 32, 101, 110, 100]⟩ := by
  have h : hexB ⟨#[97, 98]⟩ = ⟨#[54, 49, 54, 50]⟩ := by
    unfold hexB
    rw [if_neg (by intro h; have := congrArg ByteArray.size h; revert this; decide)]
    rfl
  simp only [lineB, A1, if_true, idB, endB, h, show dgN 3 = ⟨#[51]⟩ from digs3]
  rfl
theorem A2_line : lineB A2 = ⟨#[115, 101, 116, 116, 105, 110, 103, 115, 32, 49, 58, 55, 48]⟩ := by
  simp only [lineB, A2, Int.reduceEq, ↓reduceIte, setsB, List.foldl, setOne, show dgN 1 = ⟨#[49]⟩ from digs1, show dgN 70 = ⟨#[55, 48]⟩ from digs70]
  rfl

set_option maxRecDepth 100000 in
set_option maxHeartbeats 3200000 in
theorem awake_any (w : World) : Calls Tryd.prog 8 #[] w fun e w' => e = .returned (.bool true) ∧ Below w.heap.size w w' := by
  have hb0 : Below w.heap.size w (w.alloc (.cells #[.int .i64 0, .int .i64 3, .bool true, .string ⟨#[97, 98]⟩, .int .i64 0, .int .i64 0, .int .i64 0, .bool false, .int .i64 0, .int .i64 0, .int .i64 0, .slice none 0 0] 26)) := Below.step (Below.refl _ _) _
  have hli := dline_any 0 3 true ⟨#[97, 98]⟩ 0 0 0 false 0 0 0 (.slice none 0 0) [] (by decide) (w.alloc (.cells #[.int .i64 0, .int .i64 3, .bool true, .string ⟨#[97, 98]⟩, .int .i64 0, .int .i64 0, .int .i64 0, .bool false, .int .i64 0, .int .i64 0, .int .i64 0, .slice none 0 0] 26)) (Ps.nil _)
  have h1 : lineR ⟨0, 3, true, ⟨#[97, 98]⟩, 0, 0, 0, false, 0, 0, 0, []⟩ = ⟨#[100, 97, 116, 97, 32, 51, 32, 54, 49, 54, 50, 32, 101, 110, 100]⟩ := by
    unfold lineR
    rw [show checkB ⟨0, 3, true, ⟨#[97, 98]⟩, 0, 0, 0, false, 0, 0, 0, []⟩ = true from A1_check]
    exact A1_line
  have h2 : checkE ⟨0, 3, true, ⟨#[97, 98]⟩, 0, 0, 0, false, 0, 0, 0, []⟩ = 0 := by
    unfold checkE
    rw [show checkB ⟨0, 3, true, ⟨#[97, 98]⟩, 0, 0, 0, false, 0, 0, 0, []⟩ = true from A1_check]
    rfl
  rw [h1, h2] at hli
  have hpa := fun w => dparse_any ⟨#[115, 101, 116, 116, 105, 110, 103, 115, 32, 49, 58, 55, 48]⟩ (by decide) w
  have HX := Lib.hid (And.intro hb0 (And.intro hli hpa))
  clear hb0 hli hpa h1 h2
  go_enter Tryd.func8, Tryd.ntmps8
  go_wp2_with fail
  refine HX.out.2.1.mono ?_
  rintro e1 w1 ⟨rfl, hm1⟩
  have hb1 := HX.out.1.trans (hm1.mono HX.out.1.size)
  have H1 := Lib.hid hb1
  clear hb1 hm1
  go_wp2_with fail
  refine (HX.out.2.2 w1).mono ?_
  rintro e2 w2 ⟨hpt, hm2⟩
  rcases hpt with ⟨f, pv, hC, hL, hU, rfl, hps⟩ | ⟨hno, -⟩
  · have hf := hU A2 A2_check A2_line
    subst hf
    obtain ⟨b, off, cap, rfl, hcap, -, hbb, hcs⟩ := RdL.some_of hps (by decide)
    have hb2 := H1.out.trans (hm2.mono H1.out.size)
    have q0 : w2.cell? ⟨b, off, none⟩ = some (.int .i64 1) := hcs 0 _ rfl
    have q1 : w2.cell? ⟨b, off + 1, none⟩ = some (.int .i64 70) := hcs 1 _ rfl
    have hA : ∀ o, Below w.heap.size w (w2.alloc o) := fun o => hb2.alloc hb2.size o
    have hB : ∀ o, Below w2.heap.size w2 (w2.alloc o) := fun o => Below.step (Below.refl _ _) o
    have p0 : ∀ o, (w2.alloc o).cell? ⟨b, off, none⟩ = some (.int .i64 1) := fun o => ((hB o).cell (p := ⟨b, _, none⟩) hbb).trans q0
    have p1 : ∀ o, (w2.alloc o).cell? ⟨b, off + 1, none⟩ = some (.int .i64 70) := fun o => ((hB o).cell (p := ⟨b, _, none⟩) hbb).trans q1
    have HB := Lib.hid hA
    clear hA hB hb2 hm2 hC hL hU hcs hps
    simp only [fcells, A2]
    go_wp2_with fail
    go_ret
    exact ⟨rfl, HB.out _⟩
  · exact absurd A2_line (hno A2 A2_check)

end Go.Proofs.YtebiidfpgdolnaaDoor.Dmp
