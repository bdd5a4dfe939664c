import Derived.Test.YtdcdfhonkjmpeaaPickRef
import Derived.Test.YtdcdfhonkjmpeaaPickR
namespace Go.Proofs.Ytdcdfhonkjmpeaa.Pick
open Go.ChangeShapes Go.WideShapes Go.ChangeAt Go.RowKit Go.Deep
set_option linter.unusedVariables false

def cells2 (L : List (Int × Int)) : List Value := L.flatMap fun p => [.int .i64 p.1, .int .i64 p.2]
theorem cells2_length (L : List (Int × Int)) : (cells2 L).length = L.length * 2 := by
  induction L with
  | nil => rfl
  | cons p L ih => show (cells2 L).length + 2 = _; rw [ih, List.length_cons]; omega
theorem cells2_append (S T : List (Int × Int)) : cells2 (S ++ T) = cells2 S ++ cells2 T := by simp [cells2]

/-- What Set keeps of the first j. -/
def keepTo (L : List (Int × Int)) (i : Int) (j : Nat) : List (Int × Int) := (L.take j).filter fun p => p.1 != i
theorem keep_yes {L : List (Int × Int)} {i : Int} {j : Nat} {p : Int × Int} (hp : L[j]? = some p) (h : p.1 ≠ i) : keepTo L i (j + 1) = keepTo L i j ++ [p] := by
  unfold keepTo
  rw [List.take_add_one, hp, List.filter_append]
  simp [h]
theorem keep_no {L : List (Int × Int)} {i : Int} {j : Nat} {p : Int × Int} (hp : L[j]? = some p) (h : p.1 = i) : keepTo L i (j + 1) = keepTo L i j := by
  unfold keepTo
  rw [List.take_add_one, hp, List.filter_append]
  simp [h]
theorem keep_len (L : List (Int × Int)) (i : Int) (j : Nat) : (keepTo L i j).length ≤ j := by
  have h1 := List.length_filter_le (fun p : Int × Int => p.1 != i) (L.take j)
  rw [List.length_take] at h1
  unfold keepTo
  omega
theorem setL_keep (L : List (Int × Int)) (i n : Int) : setL L i n = keepTo L i L.length ++ (if clamp n ≠ 0 then [(i, clamp n)] else []) := by
  unfold setL keepTo
  rw [List.take_length]

theorem its_own {w : World} {B x n : Nat} {v : Value} {L : List (Int × Int)} (h : w.ownsRow B 101 2 v n (cells2 L)) (hx : x < B) : Its w x v L := by
  have hn : n = L.length := by have := h.1; rw [cells2_length] at this; omega
  subst hn
  obtain ⟨h1, h2⟩ := h
  rcases h2 with ⟨h3, h4⟩ | ⟨g, cap, cur, h3, h4, h5, h6, h7, h8, h9⟩
  · exact ⟨none, 0, by rw [h3, h4], by omega, fun h0 => by omega⟩
  · refine ⟨_, cap, h3, h6, fun h0 => ⟨g, 0, rfl, lt_of_block h5, by omega, fun i t ht => ?_⟩⟩
    have key : ∀ (m : Nat) (u : Value), (cells2 L)[m]? = some u → w.cell? ⟨g, m, none⟩ = some u := by
      intro m u hu
      rw [cell_of_row w g m cur 101 (0, 0) h5]
      rw [← h9, List.getElem?_take] at hu
      split at hu
      · simpa using hu
      · cases hu
    have hget : ∀ (S : List (Int × Int)) (i : Nat) (t : Int × Int), S[i]? = some t → (cells2 S)[i * 2]? = some (.int .i64 t.1) ∧ (cells2 S)[i * 2 + 1]? = some (.int .i64 t.2) := by
      intro S
      induction S with
      | nil => intro i t h; simp at h
      | cons s S ih =>
        intro i t h
        cases i with
        | zero => simp at h; subst h; exact ⟨rfl, rfl⟩
        | succ i =>
          have := ih i t (by simpa using h)
          have e : (i + 1) * 2 = i * 2 + 2 := by omega
          rw [e]
          exact this
    obtain ⟨a1, a2⟩ := hget L i t ht
    simp only [Nat.zero_add]
    exact ⟨key _ _ a1, key _ _ a2⟩

theorem own_is_slice {w : World} {B z n : Nat} {e : TypeId} {v : Value} {xs : List Value} (h : w.ownsRow B e z v n xs) : ∃ a k, v = .slice a n k := by
  rcases h.2 with ⟨h1, h2⟩ | ⟨gg, cap, cur, h1, _⟩
  · exact ⟨none, 0, by rw [h1, h2]⟩
  · exact ⟨_, cap, h1⟩
theorem set_fin {w w5 : World} {B x n : Nat} {v old : Value} {L : List (Int × Int)} (hB : w.heap.size = B) (hbel : Below B w w5) (hx : x < B) (hk : Blk w5 x 80 #[old]) (hown : w5.ownsRow B 101 2 v n (cells2 L)) :
    RefAt (w5.setCell ⟨x, 0, none⟩ v) x L ∧ w.grownBy (w5.setCell ⟨x, 0, none⟩ v) (some x) := by
  subst hB
  exact ⟨⟨v, hk.store 0 v, its_own (ownsRow_setCell_below hown (a := ⟨x, 0, none⟩) hx v) hx⟩, only_setCell (only_new hbel (some x)) (.inl rfl) v⟩
theorem info101 : (Try.prog.info? 101).map (fun i => (i.zero, i.size, i.bytes)) = some (some (.agg #[.int .i64 0, .int .i64 0]), 2, 16) := by kernel_rfl
theorem und78 : Try.prog.underlying 78 = some (.slice 101) := by kernel_rfl
theorem two_cells {w : World} {g : Nat} {t : TypeId} {a b : Value} (h : Blk w g t #[a, b]) : ∀ j u, [a, b][j]? = some u → w.cell? ((⟨g, 0, none⟩ : Addr).add j) = some u := by
  intro j u hu
  rw [Addr.add_lit, h.cell]
  match j, hu with
  | 0, hu => simpa using hu
  | 1, hu => simpa using hu

set_option maxRecDepth 100000 in
set_option maxHeartbeats 3200000 in
theorem refset_any (x : Nat) (L : List (Int × Int)) (i n : Int) (w : World) (hL : L.length ≤ 1000000) (h : RefAt w x L) :
    Calls Try.prog 39 #[.pointer (some ⟨x, 0, none⟩), .int .i64 i, .int .i64 n] w fun e w' => e = .returned (.tuple #[]) ∧ RefAt w' x (setL L i n) ∧ w.grownBy w' (some x) := by
  have hxl := h.lt
  obtain ⟨v, hx, a, cp, rfl, hcp, hv⟩ := h
  obtain ⟨N, hN⟩ : ∃ N, L.length = N := ⟨_, rfl⟩
  obtain ⟨B, hB⟩ : ∃ B, w.heap.size = B := ⟨_, rfl⟩
  have hb0 : Below B w w := Below.refl _ _
  have hs0 : B ≤ w.heap.size := by omega
  have c0 := hx.cell 0
  have hsl := setL_keep L i n
  rw [hN] at hL hcp c0 hsl hx
  rw [hB] at hv hxl
  have c0 : w.cell? ⟨x, 0, none⟩ = some (.slice a N cp) := c0
  obtain ⟨i101, hi101, hz0, hz1, hz2⟩ := info_parts info101
  have hcl : (n > 1024 ∧ clamp n = 1024) ∨ (¬ n > 1024 ∧ n < -1024 ∧ clamp n = -1024) ∨ (¬ n > 1024 ∧ ¬ n < -1024 ∧ clamp n = n) := by
    unfold clamp
    by_cases a1 : n > 1024
    · exact .inl ⟨a1, by rw [if_pos a1]⟩
    · by_cases a2 : n < -1024
      · exact .inr (.inl ⟨a1, a2, by rw [if_neg a1, if_pos a2]⟩)
      · exact .inr (.inr ⟨a1, a2, by rw [if_neg a1, if_neg a2]⟩)
  obtain ⟨z, hz⟩ : ∃ z, clamp n = z := ⟨_, rfl⟩
  rw [hz] at hcl hsl
  have HV := Lib.hid (And.intro hv (And.intro hN (And.intro hx (And.intro hsl hb0))))
  clear hv hN hx hsl hb0 hz
  have HB := Lib.hid hB
  clear hB
  rcases hcl with ⟨a1, rfl⟩ | ⟨a1, a2, rfl⟩ | ⟨a1, a2, rfl⟩
  · skip
    go_enter Try.func39, Try.ntmps39
    go_wp2_with fail
    go_loopw [6, 7] (fun out k wr => ∃ j : Nat, j ≤ N ∧ k = .int .i64 j ∧ wr.ownsRow B 101 2 out (keepTo L i j).length (cells2 (keepTo L i j)) ∧ Below B w wr) (fun _ k _ => N - (intOf k).toNat)
    case atStart => exact ⟨0, Nat.zero_le _, rfl, by simp [keepTo]; exact World.ownsRow_nil _ _ _ _, HV.out.2.2.2.2⟩
    case round =>
      obtain ⟨j, hj, rfl, hown, hbel⟩ := hrel
      have hxr : wr.cell? ⟨x, 0, none⟩ = some (.slice a N cp) := by rw [hbel.cell (by exact hxl)]; exact c0
      have hsr : B ≤ wr.heap.size := Nat.le_trans hs0 hbel.size
      rcases (show j < N ∨ j = N by omega) with hjn | hjn
      · have hNl := HV.out.2.1
        obtain ⟨p, hp⟩ : ∃ p, L[j]? = some p := ⟨L[j]'(by omega), List.getElem?_eq_getElem _⟩
        obtain ⟨b, off, rfl, hb, hbx, hc⟩ := HV.out.1 (by omega)
        obtain ⟨q0, q1⟩ := hc j p hp
        rw [← hbel.cell (p := ⟨b, _, none⟩) hb] at q0 q1
        have hkl := keep_len L i j
        have hold := hown.lt
        have hbelA := fun o => hbel.alloc hsr o
        have HK := Lib.hid (And.intro hown (And.intro hp (And.intro hbel (And.intro hkl (And.intro hold hbelA)))))
        clear hc hNl hown hp hbel hkl hold hbelA
        obtain ⟨p1, p2⟩ := p
        simp only at q0 q1
        by_cases he : p1 = i
        · subst he
          go_wp2_with fail
          go_roundw
          case rel => exact ⟨j + 1, by omega, by go_num, by rw [keep_no HK.out.2.1 rfl]; exact HK.out.1, HK.out.2.2.1⟩
          case measure => simp [intOf]; omega
        · have hkl := HK.out.2.2.2.1
          have hnb := Blk.new wr 101 #[.int .i64 p1, .int .i64 p2]
          have HNB := Lib.hid hnb
          clear hnb
          go_wp2_with (at_builtin; refine wpList_append_own _ rfl _ _ 78 rfl B 101 i101 _ 2 16 und78 hi101 hz0 hz1 hz2 rfl (by decide) _ _ _ rfl (by exact HK.out.1.alloc _) ⟨wr.heap.size, 0, none⟩ 1 1 [.int .i64 p1, .int .i64 p2] (by simp [Act.eval]) rfl (by exact two_cells HNB.out) (by simp [Value.oneCell']) (by unfold maxLen; omega) (by omega) (by simp; omega) ?_)
          intro v5 w5 hown5 hg5 hiff
          have hbel5 : Below B w w5 := (HK.out.2.2.2.2.2 _).grown hg5 (by simp; omega) (fun k hk => by have := (HK.out.2.2.2.2.1 k hk).1; omega)
          have hown6 : w5.ownsRow B 101 2 v5 (keepTo L i (j + 1)).length (cells2 (keepTo L i (j + 1))) := by
            rw [keep_yes HK.out.2.1 he, List.length_append, cells2_append]
            exact hown5
          have HR := Lib.hid (And.intro hown6 hbel5)
          clear hown5 hg5 hiff hbel5 hown6 HNB q0 q1
          go_wp2_with fail
          go_roundw
          case rel => exact ⟨j + 1, by omega, by go_num, HR.out.1, HR.out.2⟩
          case measure => simp [intOf]; omega
      · subst hjn
        have hkl := keep_len L i j
        have hold := hown.lt
        have hbelA := fun o => hbel.alloc hsr o
        have HK := Lib.hid (And.intro hown (And.intro hold (And.intro hbel hbelA)))
        clear hown hold hbel hbelA
        have hnb := Blk.new wr 101 #[.int .i64 i, .int .i64 (1024)]
        have HNB := Lib.hid hnb
        clear hnb
        go_wp2_with (at_builtin; refine wpList_append_own _ rfl _ _ 78 rfl B 101 i101 _ 2 16 und78 hi101 hz0 hz1 hz2 rfl (by decide) _ _ _ rfl (by exact HK.out.1.alloc _) ⟨wr.heap.size, 0, none⟩ 1 1 [.int .i64 i, .int .i64 (1024)] (by simp [Act.eval]) rfl (by exact two_cells HNB.out) (by simp [Value.oneCell']) (by unfold maxLen; omega) (by omega) (by simp; omega) ?_)
        intro v5 w5 hown5 hg5 hiff
        have hbel5 : Below B w w5 := (HK.out.2.2.2 _).grown hg5 (by simp; omega) (fun k hk => by have := (HK.out.2.1 k hk).1; omega)
        have hown6 : w5.ownsRow B 101 2 v5 (setL L i n).length (cells2 (setL L i n)) := by
          rw [HV.out.2.2.2.1, if_pos (by omega), List.length_append, cells2_append]
          exact hown5
        obtain ⟨a5, k5, rfl⟩ := own_is_slice hown6
        have hb5 := HV.out.2.2.1.below hbel5 hxl
        have hx5 : w5.cell? ⟨x, 0, none⟩ = some (.slice a j cp) := hb5.cell 0
        have hf5 := hb5.frozen 0
        have HR := Lib.hid (And.intro hown6 (And.intro hbel5 hb5))
        clear hown5 hg5 hiff hbel5 hown6 HNB hb5 hxr
        go_wp2_with fail
        go_end0
        exact ⟨rfl, set_fin HB.out HR.out.2.1 hxl HR.out.2.2 HR.out.1⟩
  · skip
    go_enter Try.func39, Try.ntmps39
    go_wp2_with fail
    go_loopw [6, 7] (fun out k wr => ∃ j : Nat, j ≤ N ∧ k = .int .i64 j ∧ wr.ownsRow B 101 2 out (keepTo L i j).length (cells2 (keepTo L i j)) ∧ Below B w wr) (fun _ k _ => N - (intOf k).toNat)
    case atStart => exact ⟨0, Nat.zero_le _, rfl, by simp [keepTo]; exact World.ownsRow_nil _ _ _ _, HV.out.2.2.2.2⟩
    case round =>
      obtain ⟨j, hj, rfl, hown, hbel⟩ := hrel
      have hxr : wr.cell? ⟨x, 0, none⟩ = some (.slice a N cp) := by rw [hbel.cell (by exact hxl)]; exact c0
      have hsr : B ≤ wr.heap.size := Nat.le_trans hs0 hbel.size
      rcases (show j < N ∨ j = N by omega) with hjn | hjn
      · have hNl := HV.out.2.1
        obtain ⟨p, hp⟩ : ∃ p, L[j]? = some p := ⟨L[j]'(by omega), List.getElem?_eq_getElem _⟩
        obtain ⟨b, off, rfl, hb, hbx, hc⟩ := HV.out.1 (by omega)
        obtain ⟨q0, q1⟩ := hc j p hp
        rw [← hbel.cell (p := ⟨b, _, none⟩) hb] at q0 q1
        have hkl := keep_len L i j
        have hold := hown.lt
        have hbelA := fun o => hbel.alloc hsr o
        have HK := Lib.hid (And.intro hown (And.intro hp (And.intro hbel (And.intro hkl (And.intro hold hbelA)))))
        clear hc hNl hown hp hbel hkl hold hbelA
        obtain ⟨p1, p2⟩ := p
        simp only at q0 q1
        by_cases he : p1 = i
        · subst he
          go_wp2_with fail
          go_roundw
          case rel => exact ⟨j + 1, by omega, by go_num, by rw [keep_no HK.out.2.1 rfl]; exact HK.out.1, HK.out.2.2.1⟩
          case measure => simp [intOf]; omega
        · have hkl := HK.out.2.2.2.1
          have hnb := Blk.new wr 101 #[.int .i64 p1, .int .i64 p2]
          have HNB := Lib.hid hnb
          clear hnb
          go_wp2_with (at_builtin; refine wpList_append_own _ rfl _ _ 78 rfl B 101 i101 _ 2 16 und78 hi101 hz0 hz1 hz2 rfl (by decide) _ _ _ rfl (by exact HK.out.1.alloc _) ⟨wr.heap.size, 0, none⟩ 1 1 [.int .i64 p1, .int .i64 p2] (by simp [Act.eval]) rfl (by exact two_cells HNB.out) (by simp [Value.oneCell']) (by unfold maxLen; omega) (by omega) (by simp; omega) ?_)
          intro v5 w5 hown5 hg5 hiff
          have hbel5 : Below B w w5 := (HK.out.2.2.2.2.2 _).grown hg5 (by simp; omega) (fun k hk => by have := (HK.out.2.2.2.2.1 k hk).1; omega)
          have hown6 : w5.ownsRow B 101 2 v5 (keepTo L i (j + 1)).length (cells2 (keepTo L i (j + 1))) := by
            rw [keep_yes HK.out.2.1 he, List.length_append, cells2_append]
            exact hown5
          have HR := Lib.hid (And.intro hown6 hbel5)
          clear hown5 hg5 hiff hbel5 hown6 HNB q0 q1
          go_wp2_with fail
          go_roundw
          case rel => exact ⟨j + 1, by omega, by go_num, HR.out.1, HR.out.2⟩
          case measure => simp [intOf]; omega
      · subst hjn
        have hkl := keep_len L i j
        have hold := hown.lt
        have hbelA := fun o => hbel.alloc hsr o
        have HK := Lib.hid (And.intro hown (And.intro hold (And.intro hbel hbelA)))
        clear hown hold hbel hbelA
        have hnb := Blk.new wr 101 #[.int .i64 i, .int .i64 (-1024)]
        have HNB := Lib.hid hnb
        clear hnb
        go_wp2_with (at_builtin; refine wpList_append_own _ rfl _ _ 78 rfl B 101 i101 _ 2 16 und78 hi101 hz0 hz1 hz2 rfl (by decide) _ _ _ rfl (by exact HK.out.1.alloc _) ⟨wr.heap.size, 0, none⟩ 1 1 [.int .i64 i, .int .i64 (-1024)] (by simp [Act.eval]) rfl (by exact two_cells HNB.out) (by simp [Value.oneCell']) (by unfold maxLen; omega) (by omega) (by simp; omega) ?_)
        intro v5 w5 hown5 hg5 hiff
        have hbel5 : Below B w w5 := (HK.out.2.2.2 _).grown hg5 (by simp; omega) (fun k hk => by have := (HK.out.2.1 k hk).1; omega)
        have hown6 : w5.ownsRow B 101 2 v5 (setL L i n).length (cells2 (setL L i n)) := by
          rw [HV.out.2.2.2.1, if_pos (by omega), List.length_append, cells2_append]
          exact hown5
        obtain ⟨a5, k5, rfl⟩ := own_is_slice hown6
        have hb5 := HV.out.2.2.1.below hbel5 hxl
        have hx5 : w5.cell? ⟨x, 0, none⟩ = some (.slice a j cp) := hb5.cell 0
        have hf5 := hb5.frozen 0
        have HR := Lib.hid (And.intro hown6 (And.intro hbel5 hb5))
        clear hown5 hg5 hiff hbel5 hown6 HNB hb5 hxr
        go_wp2_with fail
        go_end0
        exact ⟨rfl, set_fin HB.out HR.out.2.1 hxl HR.out.2.2 HR.out.1⟩
  · skip
    go_enter Try.func39, Try.ntmps39
    go_wp2_with fail
    go_loopw [6, 7] (fun out k wr => ∃ j : Nat, j ≤ N ∧ k = .int .i64 j ∧ wr.ownsRow B 101 2 out (keepTo L i j).length (cells2 (keepTo L i j)) ∧ Below B w wr) (fun _ k _ => N - (intOf k).toNat)
    case atStart => exact ⟨0, Nat.zero_le _, rfl, by simp [keepTo]; exact World.ownsRow_nil _ _ _ _, HV.out.2.2.2.2⟩
    case round =>
      obtain ⟨j, hj, rfl, hown, hbel⟩ := hrel
      have hxr : wr.cell? ⟨x, 0, none⟩ = some (.slice a N cp) := by rw [hbel.cell (by exact hxl)]; exact c0
      have hsr : B ≤ wr.heap.size := Nat.le_trans hs0 hbel.size
      rcases (show j < N ∨ j = N by omega) with hjn | hjn
      · have hNl := HV.out.2.1
        obtain ⟨p, hp⟩ : ∃ p, L[j]? = some p := ⟨L[j]'(by omega), List.getElem?_eq_getElem _⟩
        obtain ⟨b, off, rfl, hb, hbx, hc⟩ := HV.out.1 (by omega)
        obtain ⟨q0, q1⟩ := hc j p hp
        rw [← hbel.cell (p := ⟨b, _, none⟩) hb] at q0 q1
        have hkl := keep_len L i j
        have hold := hown.lt
        have hbelA := fun o => hbel.alloc hsr o
        have HK := Lib.hid (And.intro hown (And.intro hp (And.intro hbel (And.intro hkl (And.intro hold hbelA)))))
        clear hc hNl hown hp hbel hkl hold hbelA
        obtain ⟨p1, p2⟩ := p
        simp only at q0 q1
        by_cases he : p1 = i
        · subst he
          go_wp2_with fail
          go_roundw
          case rel => exact ⟨j + 1, by omega, by go_num, by rw [keep_no HK.out.2.1 rfl]; exact HK.out.1, HK.out.2.2.1⟩
          case measure => simp [intOf]; omega
        · have hkl := HK.out.2.2.2.1
          have hnb := Blk.new wr 101 #[.int .i64 p1, .int .i64 p2]
          have HNB := Lib.hid hnb
          clear hnb
          go_wp2_with (at_builtin; refine wpList_append_own _ rfl _ _ 78 rfl B 101 i101 _ 2 16 und78 hi101 hz0 hz1 hz2 rfl (by decide) _ _ _ rfl (by exact HK.out.1.alloc _) ⟨wr.heap.size, 0, none⟩ 1 1 [.int .i64 p1, .int .i64 p2] (by simp [Act.eval]) rfl (by exact two_cells HNB.out) (by simp [Value.oneCell']) (by unfold maxLen; omega) (by omega) (by simp; omega) ?_)
          intro v5 w5 hown5 hg5 hiff
          have hbel5 : Below B w w5 := (HK.out.2.2.2.2.2 _).grown hg5 (by simp; omega) (fun k hk => by have := (HK.out.2.2.2.2.1 k hk).1; omega)
          have hown6 : w5.ownsRow B 101 2 v5 (keepTo L i (j + 1)).length (cells2 (keepTo L i (j + 1))) := by
            rw [keep_yes HK.out.2.1 he, List.length_append, cells2_append]
            exact hown5
          have HR := Lib.hid (And.intro hown6 hbel5)
          clear hown5 hg5 hiff hbel5 hown6 HNB q0 q1
          go_wp2_with fail
          go_roundw
          case rel => exact ⟨j + 1, by omega, by go_num, HR.out.1, HR.out.2⟩
          case measure => simp [intOf]; omega
      · subst hjn
        have hkl := keep_len L i j
        have hold := hown.lt
        have hbelA := fun o => hbel.alloc hsr o
        have HK := Lib.hid (And.intro hown (And.intro hold (And.intro hbel hbelA)))
        clear hown hold hbel hbelA
        by_cases h0 : z = 0
        · subst h0
          obtain ⟨a5, k5, rfl⟩ := own_is_slice HK.out.1
          have hb5 := HV.out.2.2.1.below HK.out.2.2.1 hxl
          have hf5 := hb5.frozen 0
          have HB5 := Lib.hid hb5
          clear hb5
          go_wp2_with fail
          go_end0
          have hfin := set_fin HB.out HK.out.2.2.1 hxl HB5.out HK.out.1
          rw [HV.out.2.2.2.1, if_neg (by omega), List.append_nil]
          exact ⟨rfl, hfin⟩
        · skip
          have hnb := Blk.new wr 101 #[.int .i64 i, .int .i64 (z)]
          have HNB := Lib.hid hnb
          clear hnb
          go_wp2_with (at_builtin; refine wpList_append_own _ rfl _ _ 78 rfl B 101 i101 _ 2 16 und78 hi101 hz0 hz1 hz2 rfl (by decide) _ _ _ rfl (by exact HK.out.1.alloc _) ⟨wr.heap.size, 0, none⟩ 1 1 [.int .i64 i, .int .i64 (z)] (by simp [Act.eval]) rfl (by exact two_cells HNB.out) (by simp [Value.oneCell']) (by unfold maxLen; omega) (by omega) (by simp; omega) ?_)
          intro v5 w5 hown5 hg5 hiff
          have hbel5 : Below B w w5 := (HK.out.2.2.2 _).grown hg5 (by simp; omega) (fun k hk => by have := (HK.out.2.1 k hk).1; omega)
          have hown6 : w5.ownsRow B 101 2 v5 (setL L i z).length (cells2 (setL L i z)) := by
            rw [HV.out.2.2.2.1, if_pos (by omega), List.length_append, cells2_append]
            exact hown5
          obtain ⟨a5, k5, rfl⟩ := own_is_slice hown6
          have hb5 := HV.out.2.2.1.below hbel5 hxl
          have hx5 : w5.cell? ⟨x, 0, none⟩ = some (.slice a j cp) := hb5.cell 0
          have hf5 := hb5.frozen 0
          have HR := Lib.hid (And.intro hown6 (And.intro hbel5 hb5))
          clear hown5 hg5 hiff hbel5 hown6 HNB hb5 hxr
          go_wp2_with fail
          go_end0
          exact ⟨rfl, set_fin HB.out HR.out.2.1 hxl HR.out.2.2 HR.out.1⟩

end Go.Proofs.Ytdcdfhonkjmpeaa.Pick
