import Derived.Test.YtebiidfpgdolnaaDoorMr
import Derived.Laws.RangeAny
import Derived.LoopTactic
import Derived.Test.YtebiidfpgdolnaaDoorMx
import Derived.Laws.AppendOwn
namespace Go.Proofs.YtebiidfpgdolnaaDoor.Dmp
open Go.ChangeShapes Go.WideShapes Go.ChangeAt Go.RowKit Go.Deep
set_option linter.unusedVariables false
open Go.Lib
set_option linter.unusedSimpArgs false

/-! ### A number's digits, read -/
def dval (l : List UInt8) : Nat := l.foldl (fun a u => 10 * a + (u.toNat - 48)) 0
theorem dval_snoc (l : List UInt8) (u : UInt8) : dval (l ++ [u]) = 10 * dval l + (u.toNat - 48) := by simp [dval]
theorem dg_toNat (r : Nat) (h : r < 10) : (dg r).toNat = 48 + r := by
  unfold dg; simp [UInt8.toNat_ofNat']; omega
theorem dval_digL : ∀ n : Nat, dval (digL n) = n := by
  intro n
  induction n using Nat.strongRecOn with
  | _ n ih =>
    by_cases h : n < 10
    · rw [digL_lt h]; simp [dval, dg_toNat n h]
    · rw [digL_ge h, dval_snoc, ih (n / 10) (by omega), dg_toNat _ (by omega)]; omega
theorem digL_mem : ∀ (n : Nat) (u : UInt8), u ∈ digL n → 48 ≤ u.toNat ∧ u.toNat ≤ 57 := by
  intro n
  induction n using Nat.strongRecOn with
  | _ n ih =>
    intro u hu
    by_cases h : n < 10
    · rw [digL_lt h] at hu
      have : u = dg n := by simpa using hu
      rw [this, dg_toNat n h]; omega
    · rw [digL_ge h] at hu
      rcases List.mem_append.1 hu with hu | hu
      · exact ih (n / 10) (by omega) u hu
      · have : u = dg (n % 10) := by simpa using hu
        rw [this, dg_toNat _ (by omega)]; omega
theorem digL_ne (n : Nat) : digL n ≠ [] := by
  by_cases h : n < 10
  · rw [digL_lt h]; simp
  · rw [digL_ge h]; simp
theorem foldl_ge (l : List UInt8) : ∀ a : Nat, a ≤ l.foldl (fun a u => 10 * a + (u.toNat - 48)) a := by
  induction l with
  | nil => intro a; exact Nat.le_refl _
  | cons u l ih => intro a; have := ih (10 * a + (u.toNat - 48)); simp only [List.foldl_cons]; omega
theorem dval_take_le (l : List UInt8) (k : Nat) : dval (l.take k) ≤ dval l := by
  have e : l = l.take k ++ l.drop k := (List.take_append_drop k l).symm
  have : dval l = (l.drop k).foldl (fun a u => 10 * a + (u.toNat - 48)) (dval (l.take k)) := by
    unfold dval
    rw [← List.foldl_append, ← e]
  rw [this]
  exact foldl_ge _ _
theorem dgN_list (k : Int) : (dgN k).data.toList = digL k.toNat := rfl
theorem dgN_digit {k : Int} {s : ByteArray} (h : s = dgN k) (p : Nat) (hp : p < s.size) : 48 ≤ s[p].toNat ∧ s[p].toNat ≤ 57 := by
  have h1 := Lib.data_getElem? s p hp
  have h2 : s[p] ∈ digL k.toNat := by
    rw [← dgN_list, ← h]
    exact List.mem_of_getElem? h1
  exact digL_mem _ _ h2
theorem dgN_val {k : Int} {s : ByteArray} (hk : N31 k) (h : s = dgN k) : (dval s.data.toList : Int) = k := by
  rw [h, dgN_list, dval_digL]
  have := hk.1
  omega
theorem dgN_ne (k : Int) : dgN k ≠ ByteArray.empty := by
  intro h
  have h1 : digL k.toNat = [] := by rw [← dgN_list, h]; rfl
  exact digL_ne _ h1

/-- What dump.number answers. -/
def NumIs (s : ByteArray) (e : Ending) : Prop := ∃ (n : Int) (b : Bool), e = .returned (.tuple #[.int .i64 n, .bool b]) ∧ (∀ k, N31 k → s = dgN k → n = k)

set_option maxRecDepth 100000 in
set_option maxHeartbeats 3200000 in
theorem dnum_any (s : ByteArray) (hs : s.size ≤ 100000) (w : World) : Calls Tryd.prog 53 #[.string s] w fun e w' => NumIs s e ∧ Below w.heap.size w w' := by
  have hbi : ∀ p, Below w.heap.size w (w.iter s p) := fun p => Below.step (Below.refl _ _) _
  have HW := Lib.hid hbi
  clear hbi
  go_enter Tryd.func53, Tryd.ntmps53
  go_wp2_with fail
  go_loopw [4] (fun v wr => ∃ (p : Nat) (n : Nat), wr = w.iter s p ∧ v = .int .i64 n ∧ n ≤ 21474836479 ∧ Hid (∀ k, N31 k → s = dgN k → p ≤ s.size ∧ n = dval (s.data.toList.take p))) (fun _ wr => s.size - wr.iterPos w.heap.size)
  case atStart => exact ⟨0, 0, rfl, rfl, by omega, Lib.hid (fun k h1 h2 => ⟨Nat.zero_le _, rfl⟩)⟩
  case round =>
    obtain ⟨p, n, rfl, rfl, hn, HK⟩ := hrel
    by_cases hp : p < s.size
    · have hnx : ∀ ty, (Instr.next (.pointer (some ⟨w.heap.size, 0, none⟩)) true ty).run Tryd.prog (w.iter s p) = _ := fun ty => run_next_any w s p ty hp
      by_cases ha : s[p].toNat < 128
      · rw [decode_ascii s p hp ha] at hnx
        obtain ⟨c, hc⟩ : ∃ c, s[p].toNat = c := ⟨_, rfl⟩
        rw [hc] at hnx
        by_cases h1 : c < 48
        · have hd : ∀ k, N31 k → s = dgN k → (0 : Int) = k := fun k _ h => absurd (dgN_digit h p hp).1 (by omega)
          have c1 : (c : Int) < 48 := by omega
          have HD := Lib.hid hd
          clear hd hp hc ha HK
          go_wp2_with fail
          go_ret2
          exact ⟨⟨0, false, rfl, HD.out⟩, HW.out _⟩
        · by_cases h2 : 57 < c
          · have hd : ∀ k, N31 k → s = dgN k → (0 : Int) = k := fun k _ h => absurd (dgN_digit h p hp).2 (by omega)
            have c1 : ¬ (c : Int) < 48 := by omega
            have c2 : (57 : Int) < (c : Int) := by omega
            have HD := Lib.hid hd
            clear hd hp hc ha HK
            go_wp2_with fail
            go_ret2
            exact ⟨⟨0, false, rfl, HD.out⟩, HW.out _⟩
          · by_cases h3 : 2147483647 < n
            · have hd : ∀ k, N31 k → s = dgN k → (0 : Int) = k := fun k hk h => by
                have h5 := (HK.out k hk h).2
                have h6 := dval_take_le s.data.toList p
                have h7 := dgN_val hk h
                have := hk.2
                omega
              have c1 : ¬ (c : Int) < 48 := by omega
              have c2 : ¬ (57 : Int) < (c : Int) := by omega
              have c3 : (2147483647 : Int) < (n : Int) := by omega
              have HD := Lib.hid hd
              clear hd hp hc ha HK
              go_wp2_with fail
              go_ret2
              exact ⟨⟨0, false, rfl, HD.out⟩, HW.out _⟩
            · have hd : ∀ k, N31 k → s = dgN k → p + 1 ≤ s.size ∧ 10 * n + (c - 48) = dval (s.data.toList.take (p + 1)) := fun k hk h => by
                have h5 := (HK.out k hk h).2
                refine ⟨by omega, ?_⟩
                rw [List.take_add_one, Lib.data_getElem? s p hp]
                show _ = dval (s.data.toList.take p ++ [s[p]])
                rw [dval_snoc, ← h5, hc]
              have c1 : ¬ (c : Int) < 48 := by omega
              have c2 : ¬ (57 : Int) < (c : Int) := by omega
              have c3 : ¬ (2147483647 : Int) < (n : Int) := by omega
              have c4 : IntKind.i64.wrap (10 * (n : Int)) = 10 * (n : Int) := IntWalk.i64_in _ (by omega)
              have c5 : IntKind.i32.wrap ((c : Int) - 48) = (c : Int) - 48 := by
                unfold IntKind.wrap
                simp [IntKind.bits, IntKind.signed]
                omega
              have c6 : IntKind.i64.wrap ((c : Int) - 48) = (c : Int) - 48 := IntWalk.i64_in _ (by omega)
              have c7 : IntKind.i64.wrap (10 * (n : Int) + ((c : Int) - 48)) = ((10 * n + (c - 48) : Nat) : Int) := by
                rw [IntWalk.i64_in _ (by omega)]; omega
              have c8 : 10 * n + (c - 48) ≤ 21474836479 := by omega
              have HD := Lib.hid (And.intro hd (And.intro hp c8))
              clear hd hp hc ha HK
              go_wp2_with fail
              refine ⟨⟨p + 1, 10 * n + (c - 48), rfl, ?_, HD.out.2.2, Lib.hid HD.out.1⟩, ?_⟩
              · exact congrArg (Value.int IntKind.i64) (by omega)
              · have := HD.out.2.1
                simp
                omega
      · have hh := decode_high s p hp (by omega)
        obtain ⟨c, hc⟩ : ∃ c, (Utf8.decode s p).1 = c := ⟨_, rfl⟩
        rw [hc] at hnx
        have c1 : ¬ (c : Int) < 48 := by omega
        have c2 : (57 : Int) < (c : Int) := by omega
        have hd : ∀ k, N31 k → s = dgN k → (0 : Int) = k := fun k _ h => absurd (dgN_digit h p hp).2 (by omega)
        have HD := Lib.hid hd
        clear hd hp hc ha HK hh
        go_wp2_with fail
        go_ret2
        exact ⟨⟨0, false, rfl, HD.out⟩, HW.out _⟩
    · have hnx : ∀ ty, (Instr.next (.pointer (some ⟨w.heap.size, 0, none⟩)) true ty).run Tryd.prog (w.iter s p) = _ := fun ty => run_next_end w s p ty hp
      have hd : ∀ k, N31 k → s = dgN k → (n : Int) = k := fun k hk h => by
        have h5 := (HK.out k hk h).2
        have h7 := dgN_val hk h
        rw [List.take_of_length_le (by have : s.data.toList.length = s.size := by simp
                                       omega)] at h5
        omega
      have hdg := digits_any n (by omega) (w.iter s p)
      have HD := Lib.hid (And.intro hd hdg)
      clear hd hdg HK hp
      by_cases he : s = ByteArray.empty
      · subst he
        go_wp2_with fail
        go_ret2
        exact ⟨⟨n, _, rfl, HD.out.1⟩, HW.out _⟩
      · have heb : s.toList.isEmpty = false := by
          cases h : s.toList with
          | nil => exact absurd ((list_iff s ByteArray.empty).mp (by rw [h]; simp)) he
          | cons a l => rfl
        have HE := Lib.hid he
        clear he
        go_wp2_with fail
        refine HD.out.2.mono ?_
        rintro e1 w1 ⟨rfl, m1, rfl⟩
        have hb1 := below_drewN (HW.out p) m1
        have HB := Lib.hid hb1
        clear hb1
        go_wp2_with fail
        go_ret2
        exact ⟨⟨n, _, rfl, HD.out.1⟩, HB.out⟩

end Go.Proofs.YtebiidfpgdolnaaDoor.Dmp

namespace Go.Proofs.YtebiidfpgdolnaaDoor.Dmp
open Go.ChangeShapes Go.WideShapes Go.ChangeAt Go.RowKit Go.Deep
set_option linter.unusedVariables false
open Go.Lib Go.Shelf
set_option linter.unusedSimpArgs false

/-- A slice of strings in memory. -/
def RdS (w : World) (v : Value) (ws : List ByteArray) : Prop := RdL w 0 1 v ws.length (strW ws)
theorem RdS.below {w w' : World} {v : Value} {ws : List ByteArray} (h : RdS w v ws) (hb : Below w.heap.size w w') : RdS w' v ws := RdL.below h hb
theorem RdS.get {w : World} {v : Value} {ws : List ByteArray} (h : RdS w v ws) {i : Nat} (hi : i < ws.length) : ∃ b off cap, v = .slice (some ⟨b, off, none⟩) ws.length cap ∧ ws.length ≤ cap ∧ b < w.heap.size ∧ w.cell? ⟨b, off + i, none⟩ = some (.string (ws[i]'hi)) := by
  obtain ⟨b, off, cap, rfl, h2, -, h3, h4⟩ := RdL.some_of h (by omega)
  exact ⟨b, off, cap, rfl, h2, h3, h4 i _ (by unfold strW; rw [List.getElem?_map, List.getElem?_eq_getElem hi]; rfl)⟩
def atB (ws : List ByteArray) (i : Nat) : ByteArray := (ws[i]?).getD ByteArray.empty
theorem atB_in {ws : List ByteArray} {i : Nat} (h : i < ws.length) : atB ws i = ws[i] := by unfold atB; rw [List.getElem?_eq_getElem h]; rfl
theorem atB_out {ws : List ByteArray} {i : Nat} (h : ¬ i < ws.length) : atB ws i = ByteArray.empty := by unfold atB; rw [List.getElem?_eq_none (by omega)]; rfl
theorem atB_size {ws : List ByteArray} {k : Nat} (h : ∀ x ∈ ws, x.size ≤ k) (i : Nat) : (atB ws i).size ≤ k := by
  by_cases hi : i < ws.length
  · rw [atB_in hi]; exact h _ (List.getElem_mem hi)
  · rw [atB_out hi]; exact Nat.zero_le _

set_option maxRecDepth 100000 in
set_option maxHeartbeats 1600000 in
theorem at_any (ws : List ByteArray) (v : Value) (i : Nat) (hi : i ≤ 1000) (hw : ws.length ≤ 30000) (w : World) (h : RdS w v ws) :
    Calls Tryd.prog 54 #[v, .int .i64 i] w fun e w' => e = .returned (.string (atB ws i)) ∧ w' = w := by
  have i0 : ¬ (i : Int) < 0 := by omega
  by_cases hl : i < ws.length
  · obtain ⟨b, off, cap, rfl, h2, h3, hc⟩ := h.get hl
    have hr := atB_in hl
    obtain ⟨m, hm⟩ : ∃ m, ws.length = m := ⟨_, rfl⟩
    rw [hm] at h2 ⊢
    have i1 : ¬ (m : Int) ≤ (i : Int) := by omega
    have i2 : (0 : Int) ≤ (i : Int) := by omega
    have i3 : (i : Int) < (m : Int) := by omega
    have HR := Lib.hid hr
    clear hr hm h
    go_enter Tryd.func54, Tryd.ntmps54
    go_wp2_with fail
    go_ret
    exact ⟨congrArg (fun s => Ending.returned (Value.string s)) HR.out.symm, rfl⟩
  · obtain ⟨ao, cap, rfl, h2, -, -⟩ := RdL.cap_of h
    have hr := atB_out hl
    obtain ⟨m, hm⟩ : ∃ m, ws.length = m := ⟨_, rfl⟩
    rw [hm] at h2 ⊢
    have i1 : (m : Int) ≤ (i : Int) := by omega
    have HR := Lib.hid hr
    clear hr hm h hl
    go_enter Tryd.func54, Tryd.ntmps54
    go_wp2_with fail
    go_ret
    exact ⟨congrArg (fun s => Ending.returned (Value.string s)) HR.out.symm, rfl⟩

/-! ### A hexadecimal digit -/
def hxT : ByteArray := ⟨#[48, 49, 50, 51, 52, 53, 54, 55, 56, 57, 97, 98, 99, 100, 101, 102]⟩
def nibB (c : UInt8) : Int := Lib.indexByte hxT.data.toList c
theorem nib_rng (c : UInt8) : -1 ≤ nibB c ∧ nibB c ≤ 15 := by
  have h : ((List.range 256).all fun n => decide (-1 ≤ nibB (UInt8.ofNat n)) && decide (nibB (UInt8.ofNat n) ≤ 15)) = true := by kernel_rfl
  have h2 := List.all_eq_true.mp h c.toNat (List.mem_range.mpr c.toNat_lt)
  simpa using h2
theorem nib_hxd (r : Nat) (h : r < 16) : nibB (hxd r) = r := by
  have hc : ((List.range 16).all fun n => decide (nibB (hxd n) = (n : Int))) = true := by kernel_rfl
  exact of_decide_eq_true (List.all_eq_true.mp hc r (List.mem_range.mpr h))
set_option maxRecDepth 100000 in
theorem nibble_any (c : UInt8) (w : World) : Calls Tryd.prog 68 #[.int .u8 (c.toNat : Int)] w fun e w' => e = .returned (.int .i64 (nibB c)) ∧ ∃ m, w' = w.drewN m := by
  have h := Tryd.strings_IndexByte hxT (c.toNat : Int) w
  have hc : ((c.toNat : Int)).toNat.toUInt8 = c := by simp
  rw [hc] at h
  have HX := Lib.hid h
  clear h hc
  go_enter Tryd.func68, Tryd.ntmps68
  go_wp2_with fail
  refine HX.out.mono ?_
  rintro e w1 ⟨rfl, rfl⟩
  go_wp2_with fail
  go_ret
  exact ⟨rfl, 0, rfl⟩

end Go.Proofs.YtebiidfpgdolnaaDoor.Dmp

namespace Go.Proofs.YtebiidfpgdolnaaDoor.Dmp
open Go.ChangeShapes Go.WideShapes Go.ChangeAt Go.RowKit Go.Deep
set_option linter.unusedVariables false
open Go.Lib Go.Shelf
set_option linter.unusedSimpArgs false

theorem hexL_get (l : List UInt8) : ∀ (k : Nat) (u : UInt8), l[k]? = some u → (hexL l)[2 * k]? = some (hxd (u.toNat / 16)) ∧ (hexL l)[2 * k + 1]? = some (hxd (u.toNat % 16)) := by
  induction l with
  | nil => intro k u h; simp at h
  | cons a l ih =>
    intro k u h
    cases k with
    | zero => simp at h; subst h; exact ⟨rfl, rfl⟩
    | succ k =>
      have := ih k u (by simpa using h)
      have e : 2 * (k + 1) = 2 * k + 2 := by omega
      rw [e]
      exact this
theorem hexB_list {u s : ByteArray} (hu : u ≠ ByteArray.empty) (h : s = hexB u) : s.data.toList = hexL u.data.toList := by
  rw [h]; unfold hexB; rw [if_neg hu]
theorem hexB_len {u s : ByteArray} (hu : u ≠ ByteArray.empty) (h : s = hexB u) : s.size = 2 * u.size := by
  have h1 := congrArg List.length (hexB_list hu h)
  rw [hexL_len] at h1
  have h2 : s.data.toList.length = s.size := by simp
  have h3 : u.data.toList.length = u.size := by simp
  omega
theorem hexB_at {u s : ByteArray} (hu : u ≠ ByteArray.empty) (h : s = hexB u) (k : Nat) (hk : 2 * k + 1 < s.size) :
    ∃ x, u.data.toList[k]? = some x ∧ nibB (s[2 * k]'(by omega)) = ((x.toNat / 16 : Nat) : Int) ∧ nibB (s[2 * k + 1]'hk) = ((x.toNat % 16 : Nat) : Int) := by
  have hl := hexB_len hu h
  have h3 : u.data.toList.length = u.size := by simp
  obtain ⟨x, hx⟩ : ∃ x, u.data.toList[k]? = some x := ⟨u.data.toList[k]'(by omega), List.getElem?_eq_getElem _⟩
  obtain ⟨g1, g2⟩ := hexL_get _ k x hx
  rw [← hexB_list hu h] at g1 g2
  have e1 := Lib.data_getElem? s (2 * k) (by omega)
  have e2 := Lib.data_getElem? s (2 * k + 1) hk
  rw [e1] at g1
  rw [e2] at g2
  have hx256 : x.toNat < 256 := UInt8.toNat_lt _
  refine ⟨x, hx, ?_, ?_⟩
  · rw [Option.some.inj g1]; exact nib_hxd _ (by omega)
  · rw [Option.some.inj g2]; exact nib_hxd _ (by omega)

/-- A test on a text against a written-out one, as the walk has it. -/
theorem lit_ne {s a : ByteArray} (l : List UInt8) (ha : a.data.toList = l) (h : s ≠ a) : (s.toList == l) = false := by
  rw [beq_eq_false_iff_ne, ByteArray.toList_eq, ← ha]
  exact fun e => h (ByteArray.ext (Array.ext' e))
theorem lit_eq {s a : ByteArray} (l : List UInt8) (ha : a.data.toList = l) (h : s = a) : (s.toList == l) = true := by
  rw [beq_iff_eq, ByteArray.toList_eq, h, ha]

/-- What dump.unhex answers. -/
def UnhexIs (s : ByteArray) (e : Ending) : Prop := ∃ (t : ByteArray) (b : Bool), e = .returned (.tuple #[.string t, .bool b]) ∧ (∀ u, s = hexB u → t = u)

theorem or16 (h l : Nat) (hh : h < 16) (hl : l < 16) : bits .or .i64 ((h : Int) * 16) (l : Int) = ((16 * h + l : Nat) : Int) := by
  have hk : ((List.range 16).all fun h => (List.range 16).all fun l => decide (bits .or .i64 (((h : Nat) : Int) * 16) ((l : Nat) : Int) = ((16 * h + l : Nat) : Int))) = true := by kernel_rfl
  exact of_decide_eq_true (List.all_eq_true.mp (List.all_eq_true.mp hk h (List.mem_range.mpr hh)) l (List.mem_range.mpr hl))

theorem ByteRow.of' {w : World} {B n : Nat} {v : Value} {l : List UInt8} (h : w.ownsRow B 5 1 v n (bys l)) : Bytes w 0 w.heap.size v l := by
  have h0 : w.ownsRow 0 5 1 v n (bys l) := ⟨h.1, h.2.elim .inl fun ⟨b, cap, cur, e, h2, h3⟩ => .inr ⟨b, cap, cur, e, Nat.zero_le _, h3⟩⟩
  obtain ⟨hl, h⟩ := h0
  have hn : n = l.length := by rw [bys_len] at hl; omega
  rcases h with ⟨rfl, rfl⟩ | ⟨b, cap, cur, rfl, h2, h3, h4, h5, h6, h7⟩
  · exact .inl ⟨0, rfl, List.eq_nil_of_length_eq_zero hn.symm⟩
  · subst hn
    have hb : b < w.heap.size := lt_of_block h3
    refine .inr ⟨b, 0, cap, rfl, h4, h2, by omega, hb, fun j u hu => ?_⟩
    rw [cell_of_row w b (0 + j) cur 5 _ h3]
    have hj : j < l.length := (List.getElem?_eq_some_iff.1 hu).1
    have h8 : (bys l)[j]? = some (.int .u8 (u.toNat : Int)) := by simp [bys, hu]
    rw [← h7, List.getElem?_take, if_pos (by omega)] at h8
    rw [Nat.zero_add]
    simpa using h8

set_option maxRecDepth 100000 in
set_option maxHeartbeats 3200000 in
theorem unhex_any (s : ByteArray) (hs : s.size ≤ 100000) (w : World) : Calls Tryd.prog 56 #[.string s] w fun e w' => UnhexIs s e ∧ Below w.heap.size w w' := by
  by_cases heq : s = ⟨#[61]⟩
  · have hout : UnhexIs s (.returned (.tuple #[.string ⟨#[]⟩, .bool true])) := ⟨_, _, rfl, fun u hu => by
      by_cases h0 : u = ByteArray.empty
      · rw [h0]; rfl
      · have := hexB_len h0 hu
        have h1 : s.size = 1 := by rw [heq]; rfl
        omega⟩
    subst heq
    have HO := Lib.hid hout
    clear hout
    go_enter Tryd.func56, Tryd.ntmps56
    go_wp2_with fail
    go_ret2
    exact ⟨HO.out, Below.refl _ _⟩
  · have hbad : (∀ u, u ≠ ByteArray.empty → s = hexB u → False) → UnhexIs s (.returned (.tuple #[.string ⟨#[]⟩, .bool false])) := fun hb => ⟨_, _, rfl, fun u hu => by
      by_cases h0 : u = ByteArray.empty
      · rw [h0] at hu; exact absurd hu heq
      · exact absurd (hb u h0 hu) id⟩
    have hlist : (s.toList == [61]) = false := lit_ne (a := ⟨#[61]⟩) [61] rfl heq
    obtain ⟨i5, hi5, hz0, hz1, hz2⟩ := info_parts' info5
    have HB := Lib.hid (And.intro hbad heq)
    clear hbad heq
    go_enter Tryd.func56, Tryd.ntmps56
    go_wp2_with fail
    go_loopw [5, 4] (fun i b wr => ∃ (j k : Nat) (bl : List UInt8), j = 2 * k ∧ j ≤ s.size ∧ i = .int .i64 j ∧ bl.length = k ∧ Hid (wr.ownsRow w.heap.size 5 1 b k (bys bl) ∧ Below w.heap.size w wr ∧ ∀ u, u ≠ ByteArray.empty → s = hexB u → bl = u.data.toList.take k)) (fun i _ _ => s.size - (RowKit.intOf i).toNat)
    case atStart => exact ⟨0, 0, [], rfl, Nat.zero_le _, rfl, rfl, Lib.hid ⟨World.ownsRow_nil _ _ _ _, Below.refl _ _, fun u _ _ => rfl⟩⟩
    case round =>
      obtain ⟨j, k, bl, hj, hjs, rfl, hbl, HK⟩ := hrel
      obtain ⟨ba, bc, hbv⟩ := owns_slice HK.out.1
      subst hbv
      have w1 : IntKind.i64.wrap ((j : Int) + 1) = (j : Int) + 1 := IntWalk.i64_in _ (by omega)
      have w2 : IntKind.i64.wrap ((j : Int) + 2) = (j : Int) + 2 := IntWalk.i64_in _ (by omega)
      by_cases hlt : j + 1 < s.size
      · have k0 : (0 : Int) ≤ (j : Int) := by omega
        have k1 : (j : Int) < (s.size : Int) := by omega
        have k2 : (0 : Int) ≤ (j : Int) + 1 := by omega
        have k3 : (j : Int) + 1 < (s.size : Int) := by omega
        have n1 : ((j : Int) + 1).toNat = j + 1 := by omega
        have k4 : j < s.size := by omega
        have q1 := fun d => Calls.quiet_of (nibble_any (s[j]'k4) (wr.drewN d))
        have q2 := fun d => Calls.quiet_of (nibble_any (s[j + 1]'hlt) (wr.drewN d))
        obtain ⟨r1, r2⟩ := nib_rng (s[j]'k4)
        obtain ⟨r3, r4⟩ := nib_rng (s[j + 1]'hlt)
        have hat : ∀ u, u ≠ ByteArray.empty → s = hexB u → ∃ x, u.data.toList[k]? = some x ∧ nibB (s[j]'k4) = ((x.toNat / 16 : Nat) : Int) ∧ nibB (s[j + 1]'hlt) = ((x.toNat % 16 : Nat) : Int) := fun u hu hsu => by
          subst hj
          exact hexB_at hu hsu k hlt
        obtain ⟨h, hh⟩ : ∃ h, nibB (s[j]'k4) = h := ⟨_, rfl⟩
        obtain ⟨l, hl⟩ : ∃ l, nibB (s[j + 1]'hlt) = l := ⟨_, rfl⟩
        rw [hh] at q1 r1 r2 hat
        rw [hl] at q2 r3 r4 hat
        have HX := Lib.hid (And.intro q1 (And.intro q2 (And.intro hat (And.intro hj (And.intro hlt hbl)))))
        clear q1 q2 hat hj hh hl hjs hbl
        by_cases h0 : h < 0
        · have hno := HB.out.1 (fun u hu hsu => by obtain ⟨x, -, e1, -⟩ := HX.out.2.2.1 u hu hsu; omega)
          have HN := Lib.hid (And.intro hno (fun d => below_drewN HK.out.2.1 d))
          clear hno
          go_wp2_with fail
          go_quiet (first | (go_at_call 68; first | exact HX.out.1 _ | exact HX.out.2.1 _))
          go_wp2_with fail
          go_ret2
          exact ⟨HN.out.1, HN.out.2 _⟩
        · by_cases l0 : l < 0
          · have hno := HB.out.1 (fun u hu hsu => by obtain ⟨x, -, -, e1⟩ := HX.out.2.2.1 u hu hsu; omega)
            have HN := Lib.hid (And.intro hno (fun d => below_drewN HK.out.2.1 d))
            clear hno
            go_wp2_with fail
            go_quiet (first | (go_at_call 68; first | exact HX.out.1 _ | exact HX.out.2.1 _))
            go_wp2_with fail
            go_ret2
            exact ⟨HN.out.1, HN.out.2 _⟩
          · obtain ⟨hn, rfl⟩ : ∃ hn : Nat, h = hn := ⟨h.toNat, by omega⟩
            obtain ⟨ln, rfl⟩ : ∃ ln : Nat, l = ln := ⟨l.toNat, by omega⟩
            obtain ⟨x, hx⟩ : ∃ x, 16 * hn + ln = x := ⟨_, rfl⟩
            have c7 := or16 hn ln (by omega) (by omega)
            rw [hx] at c7
            have x256 : x < 256 := by omega
            have c8 : (x : Int) % 256 = (x : Int) := by omega
            have hbs : w.heap.size ≤ wr.heap.size := HK.out.2.1.size
            have hnx : bys (bl ++ [UInt8.ofNat x]) = bys bl ++ [.int .u8 (x : Int)] := by
              have : (UInt8.ofNat x).toNat = x := by simp [UInt8.toNat_ofNat']; omega
              rw [bys_append]; simp only [bys, List.map_cons, List.map_nil, this]
            have hA : ∀ d, ((wr.alloc (.cells #[.int .u8 (x : Int)] 5)).drewN d).ownsRow w.heap.size 5 1 (.slice ba k bc) k (bys bl) := fun d => owns_below (HK.out.1.alloc _) (below_drewN (Below.refl _ _) d)
            have hB : ∀ d, ∀ j u, [Value.int .u8 (x : Int)][j]? = some u → ((wr.alloc (.cells #[.int .u8 (x : Int)] 5)).drewN d).cell? ((⟨wr.heap.size, 0, none⟩ : Addr).add j) = some u := fun d j u hu => by
              rw [Addr.add_lit, ((Blk.new wr 5 #[Value.int .u8 (x : Int)]).drewN d).cell]
              match j, hu with
              | 0, hu => simpa using hu
            have hC : ∀ d, Below w.heap.size w ((wr.alloc (.cells #[.int .u8 (x : Int)] 5)).drewN d) := fun d => below_drewN (HK.out.2.1.alloc hbs _) d
            have hD : ∀ i, (Value.slice ba k bc).ownBlock = some i → w.heap.size ≤ i := fun i hi => (HK.out.1.lt i hi).1
            have hS : w.heap.size ≤ (wr.alloc (.cells #[.int .u8 (x : Int)] 5)).heap.size := by simp; omega
            have hU : ∀ u, u ≠ ByteArray.empty → s = hexB u → bl ++ [UInt8.ofNat x] = u.data.toList.take (k + 1) := fun u hu hsu => by
              obtain ⟨y, hy, e1, e2⟩ := HX.out.2.2.1 u hu hsu
              have hxy : x = y.toNat := by omega
              rw [List.take_add_one, hy, ← HK.out.2.2 u hu hsu, hxy]
              simp
            have k9 : k ≤ 100000 := by have := HX.out.2.2.2.1; have := HX.out.2.2.2.2.1; omega
            have HZ := Lib.hid (And.intro hnx (And.intro hA (And.intro hB (And.intro hC (And.intro hD (And.intro hS hU))))))
            clear hnx hA hB hC hD hS hU hx hbs
            go_wp2_with fail
            go_quiet (first | (go_at_call 68; first | exact HX.out.1 _ | exact HX.out.2.1 _))
            go_wp2_with (at_builtin; refine wpList_append_own _ rfl _ _ 64 rfl w.heap.size 5 i5 _ 1 1 und64s hi5 hz0 hz1 hz2 rfl (by decide) _ k (bys bl) (by rfl) (by exact HZ.out.2.1 _) ⟨wr.heap.size, 0, none⟩ 1 1 [.int .u8 (x : Int)] (by rfl) rfl (by exact HZ.out.2.2.1 _) (by simp [Value.oneCell']) (by unfold maxLen; omega) (by omega) (by exact HZ.out.2.2.2.2.2.1) ?_)
            intro v5 w5 hown5 hg5 hiff5
            rw [← HZ.out.1] at hown5
            have hb5 := (HZ.out.2.2.2.1 nq).grown hg5 HZ.out.2.2.2.2.2.1 HZ.out.2.2.2.2.1
            have H5 := Lib.hid (And.intro hown5 hb5)
            clear hown5 hg5 hiff5 hb5
            go_wp2_with fail
            refine ⟨⟨j + 2, k + 1, bl ++ [UInt8.ofNat x], by have := HX.out.2.2.2.1; omega, by have := HX.out.2.2.2.2.1; omega, rfl, by simp; exact HX.out.2.2.2.2.2, Lib.hid ⟨H5.out.1, H5.out.2, HZ.out.2.2.2.2.2.2⟩⟩, ?_⟩
            have := HX.out.2.2.2.2.1
            show s.size - ((j : Int) + 2).toNat < s.size - (j : Int).toNat
            omega
      · have k1 : ¬ (j : Int) + 1 < (s.size : Int) := by omega
        have hrun := run_string_of (P := Tryd.prog) (ByteRow.of' HK.out.1) 64 9 5 und64s Tryd.underlying5 Tryd.underlying9
        have hout : ∀ u, s = hexB u → (⟨bl.toArray⟩ : ByteArray) = u := fun u hu => by
          by_cases h0 : u = ByteArray.empty
          · rw [h0] at hu; exact absurd hu HB.out.2
          · have e1 := hexB_len h0 hu
            have e2 := HK.out.2.2 u h0 hu
            have e3 : u.data.toList.length = u.size := by simp
            rw [List.take_of_length_le (by omega)] at e2
            rw [e2]
        have HO := Lib.hid (And.intro hout HK.out.2.1)
        clear hout HK hj hjs hlt
        by_cases he : s = ByteArray.empty
        · have heb : s.toList.isEmpty = true := by rw [he, ByteArray.toList_eq]; rfl
          have HE := Lib.hid he
          clear he
          go_wp2_with fail
          go_ret2
          exact ⟨⟨_, _, rfl, HO.out.1⟩, HO.out.2⟩
        · have heb : s.toList.isEmpty = false := by
            cases h : s.toList with
            | nil => exact absurd ((list_iff s ByteArray.empty).mp (by rw [h]; simp)) he
            | cons a l => rfl
          have HE := Lib.hid he
          clear he
          go_wp2_with fail
          go_ret2
          exact ⟨⟨_, _, rfl, HO.out.1⟩, HO.out.2⟩

end Go.Proofs.YtebiidfpgdolnaaDoor.Dmp
