import Derived.Test.YtdcdfhonkjmpeaaPickF
namespace Go.Proofs.Ytdcdfhonkjmpeaa.Pick
open Go.ChangeShapes Go.WideShapes Go.ChangeAt Go.RowKit Go.Deep
set_option linter.unusedVariables false
open Go.Maps (Keyed)

/-- Has one of the first j turns this number? -/
def seenTo (T : List Turn) (j : Nat) (i : Int) : Bool := (T.take j).any fun u => u.1 == i
/-- Of the first j turns those that are ready, each once. -/
def rdyTo (T : List Turn) : Nat → List Turn
  | 0 => []
  | j + 1 => rdyTo T j ++ (match T[j]? with | some t => if seenTo T j t.1 = false ∧ t.2.2 = true then [t] else [] | none => [])
def cellsT (T : List Turn) : List Value := T.flatMap fun t => [.int .i64 t.1, .int .i64 t.2.1, .bool t.2.2]

theorem cellsT_length (T : List Turn) : (cellsT T).length = T.length * 3 := by
  induction T with
  | nil => rfl
  | cons t T ih => simp [cellsT, List.flatMap_cons] at ih ⊢; omega
theorem cellsT_append (S T : List Turn) : cellsT (S ++ T) = cellsT S ++ cellsT T := by simp [cellsT]
theorem rdyTo_len (T : List Turn) (j : Nat) : (rdyTo T j).length ≤ j := by
  induction j with
  | zero => simp [rdyTo]
  | succ j ih =>
    simp only [rdyTo, List.length_append]
    split
    · split <;> simp <;> omega
    · simp; omega
theorem rdy_yes {T : List Turn} {j : Nat} {t : Turn} (ht : T[j]? = some t) (h : seenTo T j t.1 = false ∧ t.2.2 = true) : rdyTo T (j + 1) = rdyTo T j ++ [t] := by simp [rdyTo, ht, h]
theorem rdy_no {T : List Turn} {j : Nat} {t : Turn} (ht : T[j]? = some t) (h : ¬ (seenTo T j t.1 = false ∧ t.2.2 = true)) : rdyTo T (j + 1) = rdyTo T j := by simp only [rdyTo, ht]; rw [if_neg h, List.append_nil]
theorem seen_succ {T : List Turn} {j : Nat} {t : Turn} (ht : T[j]? = some t) (i : Int) : seenTo T (j + 1) i = if i = t.1 then true else seenTo T j i := by
  unfold seenTo
  rw [List.take_add_one, ht]
  by_cases e : i = t.1
  · simp [e]
  · have h2 : (t.1 == i) = false := by simp; exact fun h => e h.symm
    simp [e, h2]

theorem SetIs.kept {w w' : World} {b n : Nat} {f : Int → Bool} {row : Option Nat} (h : SetIs w b n f) (hg : w.grownBy w' row) (hne : some b ≠ row) : SetIs w' b n f := by
  obtain ⟨D, h1, h2⟩ := h
  exact ⟨D, h1.kept hg hne, h2⟩
theorem SetIs.below {w w' : World} {b n : Nat} {f : Int → Bool} (h : SetIs w b n f) (hb : Below w.heap.size w w') : SetIs w' b n f := h.kept (row := none) (only_new hb none) (by simp)

theorem set_put {T : List Turn} {j : Nat} {t : Turn} {D : DataW Unit} (ht : T[j]? = some t) (hD : Go.Maps.IsMap D) (hf : ∀ i, Wf i → D.atKey (.int .i64 i) (.lit (.bool false)) = .lit (.bool (seenTo T j i))) :
    ∀ i, Wf i → (D.put (.int .i64 t.1) (.lit (.bool true))).atKey (.int .i64 i) (.lit (.bool false)) = .lit (.bool (seenTo T (j + 1) i)) := by
  intro i hi
  rw [seen_succ ht]
  split
  · rename_i e; subst e; exact Go.Maps.atKey_put_same hD (isKey _) _ _
  · rename_i e
    rw [Go.Maps.atKey_put_other (by intro e2; injection e2 with _ e2; exact e e2)]
    exact hf i hi

theorem info62 : (Try.prog.info? 62).map (fun i => (i.zero, i.size, i.bytes)) = some (some (.agg #[.int .i64 0, .int .i64 0, .bool false]), 3, 24) := by kernel_rfl
theorem und60 : Try.prog.underlying 60 = some (.slice 62) := by kernel_rfl
theorem three_cells {w : World} {g : Nat} {t : TypeId} {a b c : Value} (h : Blk w g t #[a, b, c]) : ∀ j u, [a, b, c][j]? = some u → w.cell? ((⟨g, 0, none⟩ : Addr).add j) = some u := by
  intro j u hu
  rw [Addr.add_lit, h.cell]
  match j, hu with
  | 0, hu => simpa using hu
  | 1, hu => simpa using hu
  | 2, hu => simpa using hu

set_option maxRecDepth 100000 in
set_option maxHeartbeats 3200000 in
theorem ready_any (T : List Turn) (v : Value) (hw : ∀ t ∈ T, Wf t.1) (hT : T.length ≤ 5864062014805) (w : World) (hv : Turns w v T) :
    Calls Try.prog 55 #[v] w fun e w' => ∃ u, e = .returned u ∧ w'.ownsRow w.heap.size 62 3 u (rdyTo T T.length).length (cellsT (rdyTo T T.length)) ∧ Below w.heap.size w w' := by
  obtain ⟨a, cp, rfl, hcp, hv3⟩ := hv
  obtain ⟨N, hN⟩ : ∃ N, T.length = N := ⟨_, rfl⟩
  obtain ⟨B, hB⟩ : ∃ B, w.heap.size = B := ⟨_, rfl⟩
  have hmm := @run_makeMap Try.prog
  have hm0 : SetIs (w.alloc (.map #[] 0)) B 0 (seenTo T 0) := by
    rw [← hB]
    exact ⟨_, World.ownsMap_made (H := Unit) w Try.prog 3 (plainElem Try.prog 4), fun i hi => rfl⟩
  have hb0 : Below B w (w.alloc (.map #[] 0)) := (Below.refl _ _).alloc (by omega) _
  have hsz0 : (w.alloc (.map #[] 0)).heap.size = B + 1 := by simp [hB]
  obtain ⟨i62, hi62, hz0, hz1, hz2⟩ := info_parts info62
  have HV := Lib.hid (And.intro hv3 (And.intro hw (And.intro hN hcp)))
  rw [hN] at hT hcp ⊢
  rw [hB]
  clear hv3 hw hN
  have H0 := Lib.hid (And.intro hm0 (And.intro hb0 hsz0))
  clear hm0 hb0 hsz0
  have HB := Lib.hid hB
  clear hB
  go_enter Try.func55, Try.ntmps55
  go_wp2_with fail
  rw [HB.out]
  go_loopw [4, 10] (fun out i wr => ∃ j : Nat, j ≤ N ∧ i = .int .i64 j ∧ wr.ownsRow (B + 1) 62 3 out (rdyTo T j).length (cellsT (rdyTo T j)) ∧ SetIs wr B j (seenTo T j) ∧ Below B w wr ∧ B + 1 ≤ wr.heap.size) (fun _ i _ => N - (intOf i).toNat)
  case atStart => exact ⟨0, Nat.zero_le _, rfl, World.ownsRow_nil _ _ _ _, H0.out.1, H0.out.2.1, Nat.le_of_eq H0.out.2.2.symm⟩
  case round =>
    clear H0
    obtain ⟨j, hj, rfl, hown, hset, hbel, hsz⟩ := hrel
    rcases (show j < N ∨ j = N by omega) with hjn | hjn
    · have hTl := HV.out.2.2.1
      obtain ⟨t, ht⟩ : ∃ t, T[j]? = some t := ⟨T[j]'(by omega), List.getElem?_eq_getElem _⟩
      obtain ⟨b, off, rfl, hb, hc⟩ := HV.out.1 (by omega)
      obtain ⟨q0, q1, q2⟩ := hc j t ht
      have hwt := HV.out.2.1 t (List.mem_of_getElem? ht)
      obtain ⟨ti, tw, tr⟩ := t
      rw [HB.out] at hb
      rw [← hbel.cell (p := ⟨b, _, none⟩) hb] at q0 q1 q2
      simp only at q0 q1 q2
      obtain ⟨wa, hwa⟩ : ∃ wa, wr.alloc (Obj.cells #[Value.int IntKind.i64 ti, Value.int IntKind.i64 tw, Value.bool tr] 62) = wa := ⟨_, rfl⟩
      have hba : Below wr.heap.size wr wa := by rw [← hwa]; exact (Below.refl _ _).alloc (Nat.le_refl _) _
      have hxa : Blk wa wr.heap.size 62 #[.int .i64 ti, .int .i64 tw, .bool tr] := by rw [← hwa]; exact Blk.new _ _ _
      have hza : wa.heap.size = wr.heap.size + 1 := by rw [← hwa]; simp
      have hseta := hset.below hba
      have howna : wa.ownsRow (B + 1) 62 3 u4 (rdyTo T j).length (cellsT (rdyTo T j)) := by rw [← hwa]; exact hown.alloc _
      have hbela := hbel.trans (hba.mono (by omega))
      have hlo := hown.lt
      have hrl := rdyTo_len T j
      clear hc hTl hset hown hbel hba
      have HK := Lib.hid (And.intro hseta (And.intro howna (And.intro hbela (And.intro hlo (And.intro ht (And.intro hwt (And.intro hrl (And.intro hxa hza))))))))
      clear hseta howna hbela hlo ht hwt hrl hxa hza
      subst hwa
      obtain ⟨D, hD, hDf⟩ := HK.out.1
      have HDD := Lib.hid (And.intro hD hDf)
      clear hD hDf
      cases hs : seenTo T j ti with
      | true =>
        go_wp2_with (first | (at_lookup; refine wpList_lookup_own_bool _ rfl _ _ 102 rfl und102 B j (seenTo T j) rfl (by exact HK.out.1) ti HK.out.2.2.2.2.2.1 rfl ?_) | (at_mapUpdate; refine wpList_mapUpdate_in _ rfl _ _ _ 102 rfl 3 4 key3 und102 _ B j D rfl (by exact HDD.out.1) (by unfold maxLen; omega) _ _ _ rfl rfl (keyOf3 HK.out.2.2.2.2.2.1) _ _ (plainElem_bool und4 true) ?_))
        intro w8 h8 ht8
        have hset8 : SetIs w8 B (j + 1) (seenTo T (j + 1)) := ⟨_, h8, set_put HK.out.2.2.2.2.1 HDD.out.1.isMap HDD.out.2⟩
        have hg8 := ht8.grown
        have hown8 := HK.out.2.1.kept hg8 (.inr (fun e => by have := (HK.out.2.2.2.1 _ e).1; omega))
        have hbel8 := HK.out.2.2.1.grown hg8 (by have := HK.out.2.2.2.2.2.2.2.2; omega) (fun k hk => by injection hk with hk; omega)
        have hs8 : B + 1 ≤ w8.heap.size := Nat.le_trans (by have := HK.out.2.2.2.2.2.2.2.2; omega) hg8.size
        have HR := Lib.hid (And.intro hset8 (And.intro (And.intro hown8 hs8) hbel8))
        clear h8 ht8 hset8 hg8 hown8 hbel8 hs8
        go_wp2_with fail
        go_roundw
        case rel => exact ⟨j + 1, by omega, by go_num, by rw [rdy_no HK.out.2.2.2.2.1 (by simp [hs])]; exact HR.out.2.1.1, HR.out.1, HR.out.2.2, HR.out.2.1.2⟩
        case measure => simp [intOf]; omega
      | false =>
        cases tr with
        | false =>
          go_wp2_with (first | (at_lookup; refine wpList_lookup_own_bool _ rfl _ _ 102 rfl und102 B j (seenTo T j) rfl (by exact HK.out.1) ti HK.out.2.2.2.2.2.1 rfl ?_) | (at_mapUpdate; refine wpList_mapUpdate_in _ rfl _ _ _ 102 rfl 3 4 key3 und102 _ B j D rfl (by exact HDD.out.1) (by unfold maxLen; omega) _ _ _ rfl rfl (keyOf3 HK.out.2.2.2.2.2.1) _ _ (plainElem_bool und4 true) ?_))
          intro w8 h8 ht8
          have hset8 : SetIs w8 B (j + 1) (seenTo T (j + 1)) := ⟨_, h8, set_put HK.out.2.2.2.2.1 HDD.out.1.isMap HDD.out.2⟩
          have hg8 := ht8.grown
          have hown8 := HK.out.2.1.kept hg8 (.inr (fun e => by have := (HK.out.2.2.2.1 _ e).1; omega))
          have hbel8 := HK.out.2.2.1.grown hg8 (by have := HK.out.2.2.2.2.2.2.2.2; omega) (fun k hk => by injection hk with hk; omega)
          have hs8 : B + 1 ≤ w8.heap.size := Nat.le_trans (by have := HK.out.2.2.2.2.2.2.2.2; omega) hg8.size
          have HR := Lib.hid (And.intro hset8 (And.intro (And.intro hown8 hs8) hbel8))
          clear h8 ht8 hset8 hg8 hown8 hbel8 hs8
          go_wp2_with fail
          go_roundw
          case rel => exact ⟨j + 1, by omega, by go_num, by rw [rdy_no HK.out.2.2.2.2.1 (by simp [hs])]; exact HR.out.2.1.1, HR.out.1, HR.out.2.2, HR.out.2.1.2⟩
          case measure => simp [intOf]; omega
        | true =>
          have hnb := Blk.new (wr.alloc (Obj.cells #[Value.int IntKind.i64 ti, Value.int IntKind.i64 tw, Value.bool true] 62)) 62 #[.int .i64 ti, .int .i64 tw, .bool true]
          rw [HK.out.2.2.2.2.2.2.2.2] at hnb
          have HNB := Lib.hid hnb
          clear hnb
          go_wp2_with (first | (at_lookup; refine wpList_lookup_own_bool _ rfl _ _ 102 rfl und102 B j (seenTo T j) rfl (by exact HK.out.1) ti HK.out.2.2.2.2.2.1 rfl ?_) | (at_builtin; refine wpList_append_own _ rfl _ _ 60 rfl (B + 1) 62 i62 _ 3 24 und60 hi62 hz0 hz1 hz2 rfl (by decide) _ _ _ rfl (by exact HK.out.2.1.alloc _) ⟨wr.heap.size + 1, 0, none⟩ 1 1 [.int .i64 ti, .int .i64 tw, .bool true] (by simp [Act.eval]) rfl (by exact three_cells HNB.out) (by simp [Value.oneCell']) (by have := HK.out.2.2.2.2.2.2.1; unfold maxLen; omega) (by have := HK.out.2.2.2.2.2.2.1; omega) (by simp; omega) ?_))
          intro v5 w5 hown5 hg5 hiff
          have hne5 : ∀ k, (k < B + 1 ∨ wr.heap.size ≤ k) → some k ≠ u4.ownBlock := fun k hk e => by have := HK.out.2.2.2.1 k e.symm; omega
          have hza := HK.out.2.2.2.2.2.2.2.2
          have hx5 := (HK.out.2.2.2.2.2.2.2.1.alloc (.cells #[.int .i64 ti, .int .i64 tw, .bool true] 62)).grown hg5 (hne5 _ (.inr (Nat.le_refl _)))
          have c5 : w5.cell? ⟨wr.heap.size, 0, none⟩ = some (.int .i64 ti) := hx5.cell 0
          have hD5 := (HDD.out.1.kept (World.grownBy_alloc _ (.cells #[.int .i64 ti, .int .i64 tw, .bool true] 62) none) (by simp)).kept hg5 (hne5 B (.inl (by omega)))
          have hbel5 : Below B w w5 := (HK.out.2.2.1.alloc (by omega) _).grown hg5 (by simp; omega) (fun k hk => by have := (HK.out.2.2.2.1 k hk).1; omega)
          have hs5 : B + 1 ≤ w5.heap.size := by have := hg5.size; simp at this; omega
          have H5 := Lib.hid (And.intro hown5 (And.intro hD5 (And.intro hbel5 hs5)))
          clear hown5 hg5 hiff hne5 hza hx5 hD5 hbel5 hs5
          go_wp2_with (at_mapUpdate; refine wpList_mapUpdate_in _ rfl _ _ _ 102 rfl 3 4 key3 und102 _ B j D rfl (by exact H5.out.2.1) (by unfold maxLen; omega) _ _ _ rfl rfl (keyOf3 HK.out.2.2.2.2.2.1) _ _ (plainElem_bool und4 true) ?_)
          intro w8 h8 ht8
          have hset8 : SetIs w8 B (j + 1) (seenTo T (j + 1)) := ⟨_, h8, set_put HK.out.2.2.2.2.1 HDD.out.1.isMap HDD.out.2⟩
          have hg8 := ht8.grown
          have hown8 := H5.out.1.kept hg8 (.inr (fun e => by have := (H5.out.1.lt _ e).1; omega))
          have hbel8 := H5.out.2.2.1.grown hg8 (by have := H5.out.2.2.2; omega) (fun k hk => by injection hk with hk; omega)
          have hs8 : B + 1 ≤ w8.heap.size := Nat.le_trans H5.out.2.2.2 hg8.size
          have hrd := rdy_yes HK.out.2.2.2.2.1 ⟨hs, rfl⟩
          have hown9 : w8.ownsRow (B + 1) 62 3 v5 (rdyTo T (j + 1)).length (cellsT (rdyTo T (j + 1))) := by
            rw [hrd, List.length_append, cellsT_append]
            exact hown8
          have HR := Lib.hid (And.intro hset8 (And.intro (And.intro hown9 hs8) hbel8))
          clear h8 ht8 hset8 hg8 hown8 hbel8 hs8 hown9 hrd
          go_wp2_with fail
          go_roundw
          case rel => exact ⟨j + 1, by omega, by go_num, HR.out.2.1.1, HR.out.1, HR.out.2.2, HR.out.2.1.2⟩
          case measure => simp [intOf]; omega
    · subst hjn
      clear hset
      have HF := Lib.hid (And.intro hown hbel)
      clear hown hbel
      go_wp2_with fail
      go_ret
      obtain ⟨h1, h2⟩ := HF.out.1
      exact ⟨_, rfl, ⟨h1, h2.imp id fun ⟨g, cap, cur, a, b, c⟩ => ⟨g, cap, cur, a, Nat.le_trans (Nat.le_succ B) b, c⟩⟩, HF.out.2⟩

end Go.Proofs.Ytdcdfhonkjmpeaa.Pick
