import Derived.Test.YtebiidfpgdolnaaModelT
import Derived.Test.YtebiidfpgdolnaaModelD
import Derived.Deep.CutBlock
namespace Go.Proofs.Ytebiidfpgdolnaa.Model
open Go.ChangeShapes Go.WideShapes Go.ChangeAt Go.RowKit Go.Deep
set_option linter.unusedVariables false
open Go.Lib

theorem next_any (g lo : Nat) (t : St) (hk : t.k = 1 ∨ t.k = 2) (x : ByteArray) (e : Bool) (vw vy vt : Value) (w : World) (h : Blk w g 56 (fl t.k t.c t.s vw t.y vy vt t.z t.en t.ou t.ca t.ac t.dr t.tl)) (hW : RdL w lo 1 vw t.W.length (strs t.W)) :
    Calls Try.prog 31 #[.pointer (some ⟨g, 0, none⟩), .string x, .bool e] w fun f w' => f = .returned (.bool (okNext t x e)) ∧ w = w' := by
  obtain ⟨k, c, s, W, y, way, V, z, en, ou, ca, ac, dr, tl⟩ := t
  simp only at hk h hW ⊢
  rcases hk with rfl | rfl
  · exact next_bytes g c s vw y vy vt z en ou ca ac dr tl x e _ (by simp [okNext]) w h
  · exact next_items g lo c s W vw y vy vt z en ou ca ac dr tl x e _ (by simp [okNext]) w h hW

/-- Sent, where it may not be. -/
theorem sent_no (g lo : Nat) (t : St) (hk : t.k = 1 ∨ t.k = 2) (x : ByteArray) (e : Bool) (hno : t.ou = true ∨ okNext t x e = false) (w : World) (h : FlowAt w g lo t) :
    Calls Try.prog 20 #[.pointer (some ⟨g, 0, none⟩), .string x, .bool e] w fun f w' => f = .returned (.bool false) ∧ w = w' := by
  obtain ⟨hlo, vw, vy, vt, hb, hW, _⟩ := h
  have c9 : w.cell? ⟨g, 9, none⟩ = some (.bool t.ou) := hb.cell 9
  have hnx := next_any g lo t hk x e vw vy vt w hb hW
  obtain ⟨o, ho⟩ : ∃ o, t.ou = o := ⟨_, rfl⟩
  obtain ⟨r, hr⟩ : ∃ r, okNext t x e = r := ⟨_, rfl⟩
  rw [ho] at hno c9
  rw [hr] at hno hnx
  have HN := Lib.hid hnx
  clear hnx
  clear hb hW ho hr
  cases o with
  | true =>
    go_enter Try.func20, Try.ntmps20
    go_wp2_with fail
    go_ret
    exact ⟨rfl, rfl⟩
  | false =>
    obtain rfl : r = false := by simpa using hno
    go_enter Try.func20, Try.ntmps20
    go_wp2_with fail
    refine HN.out.mono ?_
    rintro e1 w1 ⟨rfl, rfl⟩
    go_wp2_with fail
    go_ret
    exact ⟨rfl, rfl⟩

/-- What is left behind Sent. -/
def afterSent (t : St) (x : ByteArray) (e : Bool) : St :=
  { t with y := if t.k = 1 then t.y.extract x.size t.y.size else t.y, W := if t.k = 2 ∧ e = false then t.W.drop 1 else t.W, way := t.way ++ [(x, e)], ou := e }

set_option maxRecDepth 100000 in
set_option maxHeartbeats 25600000 in
theorem sent_yes (g lo : Nat) (t : St) (hk : t.k = 1 ∨ t.k = 2) (x : ByteArray) (e : Bool) (ho : t.ou = false) (hok : okNext t x e = true) (hn : t.way.length ≤ 1000000) (w : World) (h : FlowAt w g lo t) (hlw : lo ≤ w.heap.size) :
    Calls Try.prog 20 #[.pointer (some ⟨g, 0, none⟩), .string x, .bool e] w fun f w' => f = .returned (.bool true) ∧ FlowAt w' g lo (afterSent t x e) ∧ w.grownBy w' (some g) := by
  obtain ⟨hlo, vw, vy, vt, hb, hW, hY, hV⟩ := h
  have c9 : w.cell? ⟨g, 9, none⟩ = some (.bool false) := by rw [← ho]; exact hb.cell 9
  have c0 : w.cell? ⟨g, 0, none⟩ = some (.int .i64 t.k) := hb.cell 0
  have c4 : w.cell? ⟨g, 4, none⟩ = some (.string t.y) := hb.cell 4
  have c3 : w.cell? ⟨g, 3, none⟩ = some vw := hb.cell 3
  have f3 := hb.frozen 3
  have f4 := hb.frozen 4
  have hnx := next_any g lo t hk x e vw vy vt w hb hW
  rw [hok] at hnx
  have HB := Lib.hid (And.intro hnx (And.intro hb (And.intro hW (And.intro hY hV))))
  clear hnx hb hW hY hV
  go_enter Try.func20, Try.ntmps20
  go_wp2_with fail
  refine HB.out.1.mono ?_
  rintro e1 w1 ⟨rfl, rfl⟩
  go_upto_block 0 with fail
  go_cut [] (fun wx => ∃ vw', Blk wx g 56 (fl t.k t.c t.s vw' (afterSent t x e).y vy vt t.z t.en false t.ca t.ac t.dr t.tl) ∧ RdL wx lo 1 vw' (afterSent t x e).W.length (strs (afterSent t x e).W) ∧ RdL wx lo 2 vy t.way.length (bits t.way) ∧ RdL wx lo 1 vt t.V.length (strs t.V) ∧ w.grownBy wx (some g) ∧ w.heap.size ≤ wx.heap.size)
  case first =>
    have hgg : ∀ (p : Nat) (u : Value), w.grownBy (w.setCell ⟨g, p, none⟩ u) (some g) := fun p u => only_setCell (only_mono (World.grownBy.refl w none) (some g)) (.inl rfl) _
    have hzz : ∀ (p : Nat) (u : Value), w.heap.size ≤ (w.setCell ⟨g, p, none⟩ u).heap.size := fun p u => (hgg p u).size
    obtain ⟨k, c, s, W, y, way, V, z, en, ou, ca, ac, dr, tl⟩ := t
    simp only at hk ho hok hn HB c0 c4 ⊢
    subst ho
    rcases hk with rfl | rfl
    · have hxy : x.size ≤ y.size := by
        simp [okNext, fitsB] at hok
        omega
      have hx1 : (x.size : Int) ≤ (y.size : Int) := by omega
      have hx0 : (0 : Int) ≤ (x.size : Int) := by omega
      have hfin : ∃ vw', Blk (w.setCell ⟨g, 4, none⟩ (.string (y.extract x.size y.size))) g 56 (fl 1 c s vw' (y.extract x.size y.size) vy vt z en false ca ac dr tl) ∧ RdL (w.setCell ⟨g, 4, none⟩ (.string (y.extract x.size y.size))) lo 1 vw' W.length (strs W) ∧ RdL (w.setCell ⟨g, 4, none⟩ (.string (y.extract x.size y.size))) lo 2 vy way.length (bits way) ∧ RdL (w.setCell ⟨g, 4, none⟩ (.string (y.extract x.size y.size))) lo 1 vt V.length (strs V) ∧ w.grownBy (w.setCell ⟨g, 4, none⟩ (.string (y.extract x.size y.size))) (some g) ∧ w.heap.size ≤ (w.setCell ⟨g, 4, none⟩ (.string (y.extract x.size y.size))).heap.size :=
        ⟨vw, HB.out.2.1.store 4 _, HB.out.2.2.1.grown (hgg _ _) hlo, HB.out.2.2.2.1.grown (hgg _ _) hlo, HB.out.2.2.2.2.grown (hgg _ _) hlo, hgg _ _, hzz _ _⟩
      have HF := Lib.hid hfin
      clear hfin hgg hzz hok
      go_wp2_with fail
      go_meet
      case rel => simpa [afterSent] using HF.out
    · cases e with
      | true =>
        have hfin : ∃ vw', Blk w g 56 (fl 2 c s vw' y vy vt z en false ca ac dr tl) ∧ RdL w lo 1 vw' W.length (strs W) ∧ RdL w lo 2 vy way.length (bits way) ∧ RdL w lo 1 vt V.length (strs V) ∧ w.grownBy w (some g) ∧ w.heap.size ≤ w.heap.size :=
          ⟨vw, HB.out.2.1, HB.out.2.2.1, HB.out.2.2.2.1, HB.out.2.2.2.2, only_mono (World.grownBy.refl w none) (some g), Nat.le_refl _⟩
        have HF := Lib.hid hfin
        clear hfin hgg hzz hok
        go_wp2_with fail
        go_meet
        case rel => simpa [afterSent] using HF.out
      | false =>
        have hWn : 0 < W.length := by
          cases W with
          | nil => simp [okNext] at hok
          | cons a W => simp
        obtain ⟨b, off, cap, rfl, hcap, hb1, hb2, _⟩ := HB.out.2.2.1.some_of hWn
        have ht := HB.out.2.2.1.tail hWn
        have hdl : (W.drop 1).length = W.length - 1 := by simp
        have hds : strs (W.drop 1) = (strs W).drop 1 := by simp [strs]
        rw [← hdl, ← hds] at ht
        have hfin : ∀ v', RdL w lo 1 v' (W.drop 1).length (strs (W.drop 1)) → ∃ vw', Blk (w.setCell ⟨g, 3, none⟩ v') g 56 (fl 2 c s vw' y vy vt z en false ca ac dr tl) ∧ RdL (w.setCell ⟨g, 3, none⟩ v') lo 1 vw' (W.drop 1).length (strs (W.drop 1)) ∧ RdL (w.setCell ⟨g, 3, none⟩ v') lo 2 vy way.length (bits way) ∧ RdL (w.setCell ⟨g, 3, none⟩ v') lo 1 vt V.length (strs V) ∧ w.grownBy (w.setCell ⟨g, 3, none⟩ v') (some g) ∧ w.heap.size ≤ (w.setCell ⟨g, 3, none⟩ v').heap.size :=
          fun v' hv' => ⟨v', HB.out.2.1.store 3 _, hv'.grown (hgg _ _) hlo, HB.out.2.2.2.1.grown (hgg _ _) hlo, HB.out.2.2.2.2.grown (hgg _ _) hlo, hgg _ _, hzz _ _⟩
        obtain ⟨n, hnn⟩ : ∃ n, W.length = n := ⟨_, rfl⟩
        have hd2 : (W.drop 1).length = n - 1 := by rw [hdl, hnn]
        rw [hd2] at ht hfin
        rw [hnn] at hWn hcap c3
        have hn1 : (1 : Int) ≤ (n : Int) := by omega
        have hn2 : (n : Int) ≤ (cap : Int) := by omega
        have hn3 : (0 : Int) ≤ (n : Int) := by omega
        by_cases hc1 : cap = 1
        · subst hc1
          obtain rfl : n = 1 := by omega
          have hf := hfin _ ht
          have HF := Lib.hid (And.intro hf hnn)
          clear hf hfin hgg hzz hok ht hdl hds hnn hd2
          go_wp2_with fail
          go_meet
          case rel => simpa [afterSent, HF.out.2] using HF.out.1
        · rw [if_neg hc1] at ht
          have hf := hfin _ ht
          have HF := Lib.hid (And.intro hf hnn)
          clear hf hfin hgg hzz hok ht hdl hds hnn hd2
          go_wp2_with fail
          go_meet
          case rel => simpa [afterSent, HF.out.2] using HF.out.1
  case rest =>
    obtain ⟨vw', hb2, hW2, hY2, hV2, hg2, hz2⟩ := hcut
    obtain ⟨ao, cap, rfl, hcap, hnone, hcell⟩ := hY2.cap_of
    have hxsl := bits_length t.way
    obtain ⟨n, hnn⟩ : ∃ n, t.way.length = n := ⟨_, rfl⟩
    have d5 : wc.cell? ⟨g, 5, none⟩ = some (.slice ao t.way.length cap) := hb2.cell 5
    rw [hnn] at d5 hcap hnone hn hxsl
    have hnc : (n : Int) ≤ (cap : Int) := by omega
    have hn0 : (0 : Int) ≤ (n : Int) := by omega
    have hnb := Blk.new wc 62 #[.string x, .bool e]
    have hal : ∀ o, Below wc.heap.size wc (wc.alloc o) := fun o => (Below.refl _ _).alloc (Nat.le_refl _) o
    have hlt2 := hb2.lt
    have d5' : (wc.alloc (.cells #[.string x, .bool e] 62)).cell? ⟨g, 5, none⟩ = some (.slice ao n cap) := by
      have := (hb2.alloc (.cells #[.string x, .bool e] 62)).cell 5
      rw [← hnn]; exact this
    have hh3 : ∀ b, ao = some b → ∀ j u, (bits t.way)[j]? = some u → (wc.alloc (.cells #[.string x, .bool e] 62)).cell? (b.add j) = some u := by
      obtain ⟨ao', cap', h1, _, _, h5⟩ := (hY2.below (hal (.cells #[.string x, .bool e] 62))).cap_of
      injection h1 with h1 _ _
      subst h1
      exact h5
    have hn1 : ao = none → n = 0 ∧ n = 0 := fun h => ⟨(hnone h).1, (hnone h).1⟩
    have hlc : lo ≤ wc.heap.size := by omega
    have hfin : ∀ (base : Nat), lo ≤ base → ∀ (v5 : Value) (w5 : World), w5.ownsRow base 62 2 v5 (n + 1) (bits t.way ++ [.string x, .bool e]) → (wc.alloc (.cells #[.string x, .bool e] 62)).grownBy w5 none → ∃ vy', Blk (w5.setCell ⟨g, 5, none⟩ v5) g 56 (fl t.k t.c t.s vw' (afterSent t x e).y vy' vt t.z t.en false t.ca t.ac t.dr t.tl) ∧ RdL (w5.setCell ⟨g, 5, none⟩ v5) lo 1 vw' (afterSent t x e).W.length (strs (afterSent t x e).W) ∧ RdL (w5.setCell ⟨g, 5, none⟩ v5) lo 2 vy' (t.way ++ [(x, e)]).length (bits (t.way ++ [(x, e)])) ∧ RdL (w5.setCell ⟨g, 5, none⟩ v5) lo 1 vt t.V.length (strs t.V) ∧ w.grownBy (w5.setCell ⟨g, 5, none⟩ v5) (some g) := by
      intro base hbase v5 w5 hown hg5
      have hg5' : wc.grownBy w5 (some g) := only_mono ((only_alloc (World.grownBy.refl wc none) _).andThen hg5 (by simp)) _
      have hgs : w5.grownBy (w5.setCell ⟨g, 5, none⟩ v5) (some g) := only_setCell (World.grownBy.refl _ _) (.inl rfl) _
      have hga := only_trans hg5' hgs
      have hb5 : Blk w5 g 56 _ := (hb2.alloc (.cells #[.string x, .bool e] 62)).grown hg5 (by simp)
      refine ⟨v5, hb5.store 5 v5, hW2.grown hga hlo, ?_, hV2.grown hga hlo, only_trans hg2 hga⟩
      have := (RdL.owned hown hbase).grown hgs hlo
      rw [List.length_append, bits_append, hnn]
      exact this
    have HS := Lib.hid (And.intro hnb (And.intro hh3 (And.intro hn1 (And.intro hxsl (And.intro hfin (And.intro hb2 hnn))))))
    clear hnb hh3 hn1 hxsl hfin hb2 hW2 hY2 hV2 hg2 hz2 hcell hnone hal hcap
    have HO := Lib.hid (And.intro (show ∀ u ∈ [Value.string x, Value.bool e], u.oneCell' = true by simp [Value.oneCell']) (And.intro (show n < n + 1 by omega) (And.intro (show n + 1 ≤ maxLen by unfold maxLen; omega) (show (n + 1) * 24 ≤ 140737488355328 by omega))))
    obtain ⟨i62, hi62, hz0, hz1, hz2⟩ := info_parts info62
    go_upto_region 7 with fail
    go_cut [] (fun wx => ∃ vy', Blk wx g 56 (fl t.k t.c t.s vw' (afterSent t x e).y vy' vt t.z t.en false t.ca t.ac t.dr t.tl) ∧ RdL wx lo 1 vw' (afterSent t x e).W.length (strs (afterSent t x e).W) ∧ RdL wx lo 2 vy' (t.way ++ [(x, e)]).length (bits (t.way ++ [(x, e)])) ∧ RdL wx lo 1 vt t.V.length (strs t.V) ∧ w.grownBy wx (some g))
    case first =>
      go_region_law
        (refine step_append_grows rfl (.tmp 64) (.tmp 68) 54 rfl 62 i62 _ 2 24 und54 hi62 hz0 hz1 hz2 rfl (by decide) ao n n (bits t.way) rfl (by exact HS.out.2.2.1) (by exact HS.out.2.2.2.1) (by exact HS.out.2.1) ⟨wc.heap.size, 0, none⟩ 1 1 [.string x, .bool e] rfl rfl (by exact two_cells HS.out.1) HO.out.1 HO.out.2.1 HO.out.2.2.1 HO.out.2.2.2 ?_
         intro v5 w5 hown5 hg5
         obtain ⟨a5, k5, rfl⟩ := own_slice hown5
         have hb5 := Blk.grown (by exact HS.out.2.2.2.2.2.1.alloc (.cells #[.string x, .bool e] 62)) (by first | exact hg5 | exact undrew hg5 | exact undrewN hg5) (by simp)
         have e5 : w5.cell? ⟨g, 5, none⟩ = some (.slice ao t.way.length cap) := hb5.cell 5
         have e6 := hb5.frozen 5
         have HR := Lib.hid (HS.out.2.2.2.2.1 _ (by first | exact hlc | (simp; omega)) _ w5 hown5 (by first | exact hg5 | exact undrew hg5 | exact undrewN hg5))
         clear hown5 hg5 hb5)
      all_goals
        go_wp2_with fail
        go_meet
        case rel => exact HR.out
    case rest =>
      obtain ⟨vy', h1, h2, h3, h4, h5⟩ := hcut
      have d9 : wc.cell? ⟨g, 9, none⟩ = some (.bool false) := h1.cell 9
      have f9 := h1.frozen 9
      have hgs : wc.grownBy (wc.setCell ⟨g, 9, none⟩ (.bool e)) (some g) := only_setCell (World.grownBy.refl _ _) (.inl rfl) _
      have hf : FlowAt (wc.setCell ⟨g, 9, none⟩ (.bool e)) g lo (afterSent t x e) := ⟨hlo, vw', vy', vt, h1.store 9 _, h2.grown hgs hlo, h3.grown hgs hlo, h4.grown hgs hlo⟩
      have HF := Lib.hid (And.intro hf (only_trans h5 hgs))
      clear h1 h2 h3 h4 h5 hgs hf
      go_wp2_with fail
      go_ret
      exact ⟨rfl, HF.out⟩

end Go.Proofs.Ytebiidfpgdolnaa.Model
