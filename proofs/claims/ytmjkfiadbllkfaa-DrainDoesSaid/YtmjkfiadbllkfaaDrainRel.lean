import Derived.Test.YtmjkfiadbllkfaaDrainDo
namespace Go.Proofs.Ytmjkfiadbllkfaa.Drain
open Go.ChangeShapes Go.WideShapes Go.ChangeAt Go.RowKit Go.Deep
set_option linter.unusedVariables false

def conc (s q o : Int) : D := ⟨decide (0 ≤ s), decide (0 ≤ q), decide (0 ≤ o), if 0 ≤ s then s else 0, if 0 ≤ q then q else 0, if 0 ≤ o then o else 0⟩
def Inv (s q o : Int) : Prop := -1 ≤ s ∧ -1 ≤ q ∧ -1 ≤ o

/-- What a call of both leaves: they answer alike, and are alike again; what is over stays so. -/
def DoPost (B g gx : Nat) (o : Int) (w : World) (e : Ending) (w' : World) : Prop :=
  ∃ s' q' o' : Int, e = .returned (.bool true) ∧ Inv s' q' o' ∧ (0 ≤ o → o' = o) ∧ Blk w' g 93 (conc s' q' o').cells ∧ Blk w' gx 77 (R s' q' o') ∧ Below B w w'

theorem sendF_0 (s q o n : Int) (h : 0 ≤ o) : (14, conc s q o) = sendF (conc s q o) n := by
  unfold sendF
  rw [if_pos (by simp only [conc, decide_eq_true_eq]; omega)]

theorem sendF_1 (s q o n : Int) (h : o < 0 ∧ (n < 0 ∨ 2147483647 < n)) : (2, conc s q o) = sendF (conc s q o) n := by
  unfold sendF
  rw [if_neg (by simp only [conc, decide_eq_true_eq]; omega), if_pos (by omega)]

theorem sendF_2 (s q o n : Int) (h : o < 0 ∧ 0 ≤ n ∧ n ≤ 2147483647 ∧ 0 ≤ s) : (11, conc s q o) = sendF (conc s q o) n := by
  unfold sendF
  rw [if_neg (by simp only [conc, decide_eq_true_eq]; omega), if_neg (by omega), if_pos (by simp only [conc, decide_eq_true_eq]; omega)]

theorem sendF_3 (s q o n : Int) (h : o < 0 ∧ 0 ≤ n ∧ n ≤ 2147483647 ∧ s < 0) : (0, conc n q o) = sendF (conc s q o) n := by
  unfold sendF
  rw [if_neg (by simp only [conc, decide_eq_true_eq]; omega), if_neg (by omega), if_neg (by simp only [conc, decide_eq_true_eq]; omega)]
  have hz : 0 ≤ n := by omega
  simp [conc, hz]

theorem failF_0 (s q o m : Int) (h : 0 ≤ o) : (14, conc s q o) = failF (conc s q o) m := by
  unfold failF
  rw [if_pos (by simp only [conc, decide_eq_true_eq]; omega)]

theorem failF_1 (s q o m : Int) (h : o < 0 ∧ (m < 0 ∨ 2147483647 < m)) : (2, conc s q o) = failF (conc s q o) m := by
  unfold failF
  rw [if_neg (by simp only [conc, decide_eq_true_eq]; omega), if_pos (by omega)]

theorem failF_2 (s q o m : Int) (h : o < 0 ∧ m = 0) : (2, conc s q o) = failF (conc s q o) m := by
  unfold failF
  rw [if_neg (by simp only [conc, decide_eq_true_eq]; omega), if_pos (by omega)]

theorem failF_3 (s q o m : Int) (h : o < 0 ∧ 1 ≤ m ∧ m ≤ 2147483647) : (0, conc s q m) = failF (conc s q o) m := by
  unfold failF
  rw [if_neg (by simp only [conc, decide_eq_true_eq]; omega), if_neg (by omega)]
  have hz : 0 ≤ m := by omega
  simp [conc, hz]

theorem gotF_0 (s q o n m : Int) (h : 0 ≤ o) : (14, conc s q o) = gotF (conc s q o) n m := by
  unfold gotF
  rw [if_pos (by simp only [conc, decide_eq_true_eq]; omega)]

theorem gotF_1 (s q o n m : Int) (h : o < 0 ∧ (n < 0 ∨ 2147483647 < n)) : (2, conc s q o) = gotF (conc s q o) n m := by
  unfold gotF
  rw [if_neg (by simp only [conc, decide_eq_true_eq]; omega), if_pos (by omega)]

theorem gotF_2 (s q o n m : Int) (h : o < 0 ∧ 0 ≤ n ∧ n ≤ 2147483647 ∧ (m < 0 ∨ 2147483647 < m)) : (2, conc s q o) = gotF (conc s q o) n m := by
  unfold gotF
  rw [if_neg (by simp only [conc, decide_eq_true_eq]; omega), if_pos (by omega)]

theorem gotF_3 (s q o n m : Int) (h : o < 0 ∧ 0 ≤ n ∧ n ≤ 2147483647 ∧ 1 ≤ m ∧ m ≤ 2147483647) : (0, conc s q m) = gotF (conc s q o) n m := by
  unfold gotF
  rw [if_neg (by simp only [conc, decide_eq_true_eq]; omega), if_neg (by omega), if_pos (by omega)]
  have hz : 0 ≤ m := by omega
  simp [conc, hz]

theorem gotF_4 (s q o n : Int) (h : o < 0 ∧ 0 ≤ n ∧ n ≤ 2147483647 ∧ 0 ≤ q ∧ q ≤ n) : (11, conc s q o) = gotF (conc s q o) n 0 := by
  unfold gotF
  rw [if_neg (by simp only [conc, decide_eq_true_eq]; omega), if_neg (by omega), if_neg (by omega), if_pos (by simp only [conc, decide_eq_true_eq]; rw [if_pos (by omega)]; omega)]

theorem gotF_5 (s q o n : Int) (h : o < 0 ∧ 0 ≤ n ∧ n ≤ 2147483647 ∧ 0 ≤ q ∧ n < q) : (0, conc s n o) = gotF (conc s q o) n 0 := by
  unfold gotF
  rw [if_neg (by simp only [conc, decide_eq_true_eq]; omega), if_neg (by omega), if_neg (by omega), if_neg (by simp only [conc, decide_eq_true_eq]; rw [if_pos (by omega)]; omega)]
  have hz : 0 ≤ n := by omega
  simp [conc, hz]

theorem gotF_6 (s q o n : Int) (h : o < 0 ∧ 0 ≤ n ∧ n ≤ 2147483647 ∧ q < 0) : (0, conc s n o) = gotF (conc s q o) n 0 := by
  unfold gotF
  rw [if_neg (by simp only [conc, decide_eq_true_eq]; omega), if_neg (by omega), if_neg (by omega), if_neg (fun h' => by have := h'.1; simp only [conc, decide_eq_true_eq] at this; omega)]
  have hz : 0 ≤ n := by omega
  simp [conc, hz]

theorem stepF_0 (s q o n : Int) (h : 0 ≤ o) : conc s q o = stepF (conc s q o) n := by
  unfold stepF
  rw [if_neg (by simp only [conc, decide_eq_true_eq, decide_eq_false_iff_not]; omega)]

theorem stepF_1 (s q o n : Int) (h : o < 0 ∧ 0 < n) : conc s q o = stepF (conc s q o) n := by
  unfold stepF
  rw [if_neg (by simp only [conc, decide_eq_true_eq, decide_eq_false_iff_not]; omega)]

theorem stepF_2 (s q o n : Int) (h : o < 0 ∧ n ≤ 0 ∧ s < 0 ∧ q < 0) : conc s q o = stepF (conc s q o) n := by
  unfold stepF
  rw [if_neg (by simp only [conc, decide_eq_true_eq, decide_eq_false_iff_not]; omega)]

theorem stepF_3 (s q o n : Int) (h : o < 0 ∧ n ≤ 0 ∧ 0 ≤ s) : conc s q 0 = stepF (conc s q o) n := by
  unfold stepF
  rw [if_pos (by simp only [conc, decide_eq_true_eq, decide_eq_false_iff_not]; omega)]
  simp [conc]

theorem stepF_4 (s q o n : Int) (h : o < 0 ∧ n ≤ 0 ∧ s < 0 ∧ 0 ≤ q) : conc s q 0 = stepF (conc s q o) n := by
  unfold stepF
  rw [if_pos (by simp only [conc, decide_eq_true_eq, decide_eq_false_iff_not]; omega)]
  simp [conc]

theorem run_send_0 (B g gx : Nat) (s q o n m : Int) (hi : Inv s q o) (h : 0 ≤ o) (w : World) (hd : Blk w g 93 (conc s q o).cells) (hx : Blk w gx 77 (R s q o)) (hB : B ≤ g ∧ B ≤ gx) :
    Calls Try.prog 48 #[.pointer (some ⟨g, 0, none⟩), .pointer (some ⟨gx, 0, none⟩), .agg #[.int .i64 0, .int .i64 n, .int .i64 m]] w (DoPost B g gx o w) := by
  have hf := sendF_0 s q o n h
  refine (do_send B g gx _ _ _ _ n m 14 (fun w hw => send_any g _ _ _ _ _ _ n 14 _ hf w hw) (fun w hw => refsend_over gx s q o n h w hw) w hd hx hB).mono ?_
  rintro e w' ⟨rfl, h1, h2, h3⟩
  obtain ⟨i0, i1, i2⟩ := hi
  exact ⟨s, q, o, rfl, ⟨by omega, by omega, by omega⟩, fun ho => by omega, h1, h2, h3⟩

theorem run_send_1 (B g gx : Nat) (s q o n m : Int) (hi : Inv s q o) (h : o < 0 ∧ (n < 0 ∨ 2147483647 < n)) (w : World) (hd : Blk w g 93 (conc s q o).cells) (hx : Blk w gx 77 (R s q o)) (hB : B ≤ g ∧ B ≤ gx) :
    Calls Try.prog 48 #[.pointer (some ⟨g, 0, none⟩), .pointer (some ⟨gx, 0, none⟩), .agg #[.int .i64 0, .int .i64 n, .int .i64 m]] w (DoPost B g gx o w) := by
  have hf := sendF_1 s q o n h
  refine (do_send B g gx _ _ _ _ n m 2 (fun w hw => send_any g _ _ _ _ _ _ n 2 _ hf w hw) (fun w hw => refsend_arg gx s q o n h.1 h.2 w hw) w hd hx hB).mono ?_
  rintro e w' ⟨rfl, h1, h2, h3⟩
  obtain ⟨i0, i1, i2⟩ := hi
  exact ⟨s, q, o, rfl, ⟨by omega, by omega, by omega⟩, fun ho => by omega, h1, h2, h3⟩

theorem run_send_2 (B g gx : Nat) (s q o n m : Int) (hi : Inv s q o) (h : o < 0 ∧ 0 ≤ n ∧ n ≤ 2147483647 ∧ 0 ≤ s) (w : World) (hd : Blk w g 93 (conc s q o).cells) (hx : Blk w gx 77 (R s q o)) (hB : B ≤ g ∧ B ≤ gx) :
    Calls Try.prog 48 #[.pointer (some ⟨g, 0, none⟩), .pointer (some ⟨gx, 0, none⟩), .agg #[.int .i64 0, .int .i64 n, .int .i64 m]] w (DoPost B g gx o w) := by
  have hf := sendF_2 s q o n h
  refine (do_send B g gx _ _ _ _ n m 11 (fun w hw => send_any g _ _ _ _ _ _ n 11 _ hf w hw) (fun w hw => refsend_state gx s q o n h.1 h.2.1 h.2.2.1 h.2.2.2 w hw) w hd hx hB).mono ?_
  rintro e w' ⟨rfl, h1, h2, h3⟩
  obtain ⟨i0, i1, i2⟩ := hi
  exact ⟨s, q, o, rfl, ⟨by omega, by omega, by omega⟩, fun ho => by omega, h1, h2, h3⟩

theorem run_send_3 (B g gx : Nat) (s q o n m : Int) (hi : Inv s q o) (h : o < 0 ∧ 0 ≤ n ∧ n ≤ 2147483647 ∧ s < 0) (w : World) (hd : Blk w g 93 (conc s q o).cells) (hx : Blk w gx 77 (R s q o)) (hB : B ≤ g ∧ B ≤ gx) :
    Calls Try.prog 48 #[.pointer (some ⟨g, 0, none⟩), .pointer (some ⟨gx, 0, none⟩), .agg #[.int .i64 0, .int .i64 n, .int .i64 m]] w (DoPost B g gx o w) := by
  have hf := sendF_3 s q o n h
  refine (do_send B g gx _ _ _ _ n m 0 (fun w hw => send_any g _ _ _ _ _ _ n 0 _ hf w hw) (fun w hw => refsend_ok gx s q o n h.1 h.2.1 h.2.2.1 h.2.2.2 w hw) w hd hx hB).mono ?_
  rintro e w' ⟨rfl, h1, h2, h3⟩
  obtain ⟨i0, i1, i2⟩ := hi
  exact ⟨n, q, o, rfl, ⟨by omega, by omega, by omega⟩, fun ho => by omega, h1, h2, h3⟩

theorem run_fail_0 (B g gx : Nat) (s q o n m : Int) (hi : Inv s q o) (h : 0 ≤ o) (w : World) (hd : Blk w g 93 (conc s q o).cells) (hx : Blk w gx 77 (R s q o)) (hB : B ≤ g ∧ B ≤ gx) :
    Calls Try.prog 48 #[.pointer (some ⟨g, 0, none⟩), .pointer (some ⟨gx, 0, none⟩), .agg #[.int .i64 3, .int .i64 n, .int .i64 m]] w (DoPost B g gx o w) := by
  have hf := failF_0 s q o m h
  refine (do_fail B g gx _ _ _ _ n m 14 (fun w hw => fail_any g _ _ _ _ _ _ m 14 _ hf w hw) (fun w hw => reffail_over gx s q o m h w hw) w hd hx hB).mono ?_
  rintro e w' ⟨rfl, h1, h2, h3⟩
  obtain ⟨i0, i1, i2⟩ := hi
  exact ⟨s, q, o, rfl, ⟨by omega, by omega, by omega⟩, fun ho => by omega, h1, h2, h3⟩

theorem run_fail_1 (B g gx : Nat) (s q o n m : Int) (hi : Inv s q o) (h : o < 0 ∧ (m < 0 ∨ 2147483647 < m)) (w : World) (hd : Blk w g 93 (conc s q o).cells) (hx : Blk w gx 77 (R s q o)) (hB : B ≤ g ∧ B ≤ gx) :
    Calls Try.prog 48 #[.pointer (some ⟨g, 0, none⟩), .pointer (some ⟨gx, 0, none⟩), .agg #[.int .i64 3, .int .i64 n, .int .i64 m]] w (DoPost B g gx o w) := by
  have hf := failF_1 s q o m h
  refine (do_fail B g gx _ _ _ _ n m 2 (fun w hw => fail_any g _ _ _ _ _ _ m 2 _ hf w hw) (fun w hw => reffail_arg gx s q o m h.1 h.2 w hw) w hd hx hB).mono ?_
  rintro e w' ⟨rfl, h1, h2, h3⟩
  obtain ⟨i0, i1, i2⟩ := hi
  exact ⟨s, q, o, rfl, ⟨by omega, by omega, by omega⟩, fun ho => by omega, h1, h2, h3⟩

theorem run_fail_2 (B g gx : Nat) (s q o n m : Int) (hi : Inv s q o) (h : o < 0 ∧ m = 0) (w : World) (hd : Blk w g 93 (conc s q o).cells) (hx : Blk w gx 77 (R s q o)) (hB : B ≤ g ∧ B ≤ gx) :
    Calls Try.prog 48 #[.pointer (some ⟨g, 0, none⟩), .pointer (some ⟨gx, 0, none⟩), .agg #[.int .i64 3, .int .i64 n, .int .i64 m]] w (DoPost B g gx o w) := by
  have hf := failF_2 s q o m h
  refine (do_fail B g gx _ _ _ _ n m 2 (fun w hw => fail_any g _ _ _ _ _ _ m 2 _ hf w hw) (fun w hw => reffail_zero gx s q o m h.1 h.2 w hw) w hd hx hB).mono ?_
  rintro e w' ⟨rfl, h1, h2, h3⟩
  obtain ⟨i0, i1, i2⟩ := hi
  exact ⟨s, q, o, rfl, ⟨by omega, by omega, by omega⟩, fun ho => by omega, h1, h2, h3⟩

theorem run_fail_3 (B g gx : Nat) (s q o n m : Int) (hi : Inv s q o) (h : o < 0 ∧ 1 ≤ m ∧ m ≤ 2147483647) (w : World) (hd : Blk w g 93 (conc s q o).cells) (hx : Blk w gx 77 (R s q o)) (hB : B ≤ g ∧ B ≤ gx) :
    Calls Try.prog 48 #[.pointer (some ⟨g, 0, none⟩), .pointer (some ⟨gx, 0, none⟩), .agg #[.int .i64 3, .int .i64 n, .int .i64 m]] w (DoPost B g gx o w) := by
  have hf := failF_3 s q o m h
  refine (do_fail B g gx _ _ _ _ n m 0 (fun w hw => fail_any g _ _ _ _ _ _ m 0 _ hf w hw) (fun w hw => reffail_ok gx s q o m h.1 h.2.1 h.2.2 w hw) w hd hx hB).mono ?_
  rintro e w' ⟨rfl, h1, h2, h3⟩
  obtain ⟨i0, i1, i2⟩ := hi
  exact ⟨s, q, m, rfl, ⟨by omega, by omega, by omega⟩, fun ho => by omega, h1, h2, h3⟩

theorem run_got1_0 (B g gx : Nat) (s q o n m : Int) (hi : Inv s q o) (h : 0 ≤ o) (w : World) (hd : Blk w g 93 (conc s q o).cells) (hx : Blk w gx 77 (R s q o)) (hB : B ≤ g ∧ B ≤ gx) :
    Calls Try.prog 48 #[.pointer (some ⟨g, 0, none⟩), .pointer (some ⟨gx, 0, none⟩), .agg #[.int .i64 1, .int .i64 n, .int .i64 m]] w (DoPost B g gx o w) := by
  have hf := gotF_0 s q o n m h
  refine (do_got1 B g gx _ _ _ _ n m 14 (fun w hw => got_any g _ _ _ _ _ _ n m 14 _ hf w hw) (fun w hw => reftake_over gx s q o n m h w hw) w hd hx hB).mono ?_
  rintro e w' ⟨rfl, h1, h2, h3⟩
  obtain ⟨i0, i1, i2⟩ := hi
  exact ⟨s, q, o, rfl, ⟨by omega, by omega, by omega⟩, fun ho => by omega, h1, h2, h3⟩

theorem run_got2_0 (B g gx : Nat) (s q o n m : Int) (hi : Inv s q o) (h : 0 ≤ o) (w : World) (hd : Blk w g 93 (conc s q o).cells) (hx : Blk w gx 77 (R s q o)) (hB : B ≤ g ∧ B ≤ gx) :
    Calls Try.prog 48 #[.pointer (some ⟨g, 0, none⟩), .pointer (some ⟨gx, 0, none⟩), .agg #[.int .i64 2, .int .i64 n, .int .i64 m]] w (DoPost B g gx o w) := by
  have hf := gotF_0 s q o n m h
  refine (do_got2 B g gx _ _ _ _ n m 14 (fun w hw => got_any g _ _ _ _ _ _ n m 14 _ hf w hw) (fun w hw => reftake_over gx s q o n m h w hw) w hd hx hB).mono ?_
  rintro e w' ⟨rfl, h1, h2, h3⟩
  obtain ⟨i0, i1, i2⟩ := hi
  exact ⟨s, q, o, rfl, ⟨by omega, by omega, by omega⟩, fun ho => by omega, h1, h2, h3⟩

theorem run_got1_1 (B g gx : Nat) (s q o n m : Int) (hi : Inv s q o) (h : o < 0 ∧ (n < 0 ∨ 2147483647 < n)) (w : World) (hd : Blk w g 93 (conc s q o).cells) (hx : Blk w gx 77 (R s q o)) (hB : B ≤ g ∧ B ≤ gx) :
    Calls Try.prog 48 #[.pointer (some ⟨g, 0, none⟩), .pointer (some ⟨gx, 0, none⟩), .agg #[.int .i64 1, .int .i64 n, .int .i64 m]] w (DoPost B g gx o w) := by
  have hf := gotF_1 s q o n m h
  refine (do_got1 B g gx _ _ _ _ n m 2 (fun w hw => got_any g _ _ _ _ _ _ n m 2 _ hf w hw) (fun w hw => reftake_arg1 gx s q o n m h.1 h.2 w hw) w hd hx hB).mono ?_
  rintro e w' ⟨rfl, h1, h2, h3⟩
  obtain ⟨i0, i1, i2⟩ := hi
  exact ⟨s, q, o, rfl, ⟨by omega, by omega, by omega⟩, fun ho => by omega, h1, h2, h3⟩

theorem run_got2_1 (B g gx : Nat) (s q o n m : Int) (hi : Inv s q o) (h : o < 0 ∧ (n < 0 ∨ 2147483647 < n)) (w : World) (hd : Blk w g 93 (conc s q o).cells) (hx : Blk w gx 77 (R s q o)) (hB : B ≤ g ∧ B ≤ gx) :
    Calls Try.prog 48 #[.pointer (some ⟨g, 0, none⟩), .pointer (some ⟨gx, 0, none⟩), .agg #[.int .i64 2, .int .i64 n, .int .i64 m]] w (DoPost B g gx o w) := by
  have hf := gotF_1 s q o n m h
  refine (do_got2 B g gx _ _ _ _ n m 2 (fun w hw => got_any g _ _ _ _ _ _ n m 2 _ hf w hw) (fun w hw => reftake_arg1 gx s q o n m h.1 h.2 w hw) w hd hx hB).mono ?_
  rintro e w' ⟨rfl, h1, h2, h3⟩
  obtain ⟨i0, i1, i2⟩ := hi
  exact ⟨s, q, o, rfl, ⟨by omega, by omega, by omega⟩, fun ho => by omega, h1, h2, h3⟩

theorem run_got1_2 (B g gx : Nat) (s q o n m : Int) (hi : Inv s q o) (h : o < 0 ∧ 0 ≤ n ∧ n ≤ 2147483647 ∧ (m < 0 ∨ 2147483647 < m)) (w : World) (hd : Blk w g 93 (conc s q o).cells) (hx : Blk w gx 77 (R s q o)) (hB : B ≤ g ∧ B ≤ gx) :
    Calls Try.prog 48 #[.pointer (some ⟨g, 0, none⟩), .pointer (some ⟨gx, 0, none⟩), .agg #[.int .i64 1, .int .i64 n, .int .i64 m]] w (DoPost B g gx o w) := by
  have hf := gotF_2 s q o n m h
  refine (do_got1 B g gx _ _ _ _ n m 2 (fun w hw => got_any g _ _ _ _ _ _ n m 2 _ hf w hw) (fun w hw => reftake_arg2 gx s q o n m h.1 h.2.1 h.2.2.1 h.2.2.2 w hw) w hd hx hB).mono ?_
  rintro e w' ⟨rfl, h1, h2, h3⟩
  obtain ⟨i0, i1, i2⟩ := hi
  exact ⟨s, q, o, rfl, ⟨by omega, by omega, by omega⟩, fun ho => by omega, h1, h2, h3⟩

theorem run_got2_2 (B g gx : Nat) (s q o n m : Int) (hi : Inv s q o) (h : o < 0 ∧ 0 ≤ n ∧ n ≤ 2147483647 ∧ (m < 0 ∨ 2147483647 < m)) (w : World) (hd : Blk w g 93 (conc s q o).cells) (hx : Blk w gx 77 (R s q o)) (hB : B ≤ g ∧ B ≤ gx) :
    Calls Try.prog 48 #[.pointer (some ⟨g, 0, none⟩), .pointer (some ⟨gx, 0, none⟩), .agg #[.int .i64 2, .int .i64 n, .int .i64 m]] w (DoPost B g gx o w) := by
  have hf := gotF_2 s q o n m h
  refine (do_got2 B g gx _ _ _ _ n m 2 (fun w hw => got_any g _ _ _ _ _ _ n m 2 _ hf w hw) (fun w hw => reftake_arg2 gx s q o n m h.1 h.2.1 h.2.2.1 h.2.2.2 w hw) w hd hx hB).mono ?_
  rintro e w' ⟨rfl, h1, h2, h3⟩
  obtain ⟨i0, i1, i2⟩ := hi
  exact ⟨s, q, o, rfl, ⟨by omega, by omega, by omega⟩, fun ho => by omega, h1, h2, h3⟩

theorem run_got1_3 (B g gx : Nat) (s q o n m : Int) (hi : Inv s q o) (h : o < 0 ∧ 0 ≤ n ∧ n ≤ 2147483647 ∧ 1 ≤ m ∧ m ≤ 2147483647) (w : World) (hd : Blk w g 93 (conc s q o).cells) (hx : Blk w gx 77 (R s q o)) (hB : B ≤ g ∧ B ≤ gx) :
    Calls Try.prog 48 #[.pointer (some ⟨g, 0, none⟩), .pointer (some ⟨gx, 0, none⟩), .agg #[.int .i64 1, .int .i64 n, .int .i64 m]] w (DoPost B g gx o w) := by
  have hf := gotF_3 s q o n m h
  refine (do_got1 B g gx _ _ _ _ n m 0 (fun w hw => got_any g _ _ _ _ _ _ n m 0 _ hf w hw) (fun w hw => reftake_code gx s q o n m h.1 h.2.1 h.2.2.1 h.2.2.2.1 h.2.2.2.2 w hw) w hd hx hB).mono ?_
  rintro e w' ⟨rfl, h1, h2, h3⟩
  obtain ⟨i0, i1, i2⟩ := hi
  exact ⟨s, q, m, rfl, ⟨by omega, by omega, by omega⟩, fun ho => by omega, h1, h2, h3⟩

theorem run_got2_3 (B g gx : Nat) (s q o n m : Int) (hi : Inv s q o) (h : o < 0 ∧ 0 ≤ n ∧ n ≤ 2147483647 ∧ 1 ≤ m ∧ m ≤ 2147483647) (w : World) (hd : Blk w g 93 (conc s q o).cells) (hx : Blk w gx 77 (R s q o)) (hB : B ≤ g ∧ B ≤ gx) :
    Calls Try.prog 48 #[.pointer (some ⟨g, 0, none⟩), .pointer (some ⟨gx, 0, none⟩), .agg #[.int .i64 2, .int .i64 n, .int .i64 m]] w (DoPost B g gx o w) := by
  have hf := gotF_3 s q o n m h
  refine (do_got2 B g gx _ _ _ _ n m 0 (fun w hw => got_any g _ _ _ _ _ _ n m 0 _ hf w hw) (fun w hw => reftake_code gx s q o n m h.1 h.2.1 h.2.2.1 h.2.2.2.1 h.2.2.2.2 w hw) w hd hx hB).mono ?_
  rintro e w' ⟨rfl, h1, h2, h3⟩
  obtain ⟨i0, i1, i2⟩ := hi
  exact ⟨s, q, m, rfl, ⟨by omega, by omega, by omega⟩, fun ho => by omega, h1, h2, h3⟩

theorem run_got1_4 (B g gx : Nat) (s q o n : Int) (hi : Inv s q o) (h : o < 0 ∧ 0 ≤ n ∧ n ≤ 2147483647 ∧ 0 ≤ q ∧ q ≤ n) (w : World) (hd : Blk w g 93 (conc s q o).cells) (hx : Blk w gx 77 (R s q o)) (hB : B ≤ g ∧ B ≤ gx) :
    Calls Try.prog 48 #[.pointer (some ⟨g, 0, none⟩), .pointer (some ⟨gx, 0, none⟩), .agg #[.int .i64 1, .int .i64 n, .int .i64 0]] w (DoPost B g gx o w) := by
  have hf := gotF_4 s q o n h
  refine (do_got1 B g gx _ _ _ _ n 0 11 (fun w hw => got_any g _ _ _ _ _ _ n 0 11 _ hf w hw) (fun w hw => reftake_state gx s q o n h.1 h.2.1 h.2.2.1 h.2.2.2.1 h.2.2.2.2 w hw) w hd hx hB).mono ?_
  rintro e w' ⟨rfl, h1, h2, h3⟩
  obtain ⟨i0, i1, i2⟩ := hi
  exact ⟨s, q, o, rfl, ⟨by omega, by omega, by omega⟩, fun ho => by omega, h1, h2, h3⟩

theorem run_got2_4 (B g gx : Nat) (s q o n : Int) (hi : Inv s q o) (h : o < 0 ∧ 0 ≤ n ∧ n ≤ 2147483647 ∧ 0 ≤ q ∧ q ≤ n) (w : World) (hd : Blk w g 93 (conc s q o).cells) (hx : Blk w gx 77 (R s q o)) (hB : B ≤ g ∧ B ≤ gx) :
    Calls Try.prog 48 #[.pointer (some ⟨g, 0, none⟩), .pointer (some ⟨gx, 0, none⟩), .agg #[.int .i64 2, .int .i64 n, .int .i64 0]] w (DoPost B g gx o w) := by
  have hf := gotF_4 s q o n h
  refine (do_got2 B g gx _ _ _ _ n 0 11 (fun w hw => got_any g _ _ _ _ _ _ n 0 11 _ hf w hw) (fun w hw => reftake_state gx s q o n h.1 h.2.1 h.2.2.1 h.2.2.2.1 h.2.2.2.2 w hw) w hd hx hB).mono ?_
  rintro e w' ⟨rfl, h1, h2, h3⟩
  obtain ⟨i0, i1, i2⟩ := hi
  exact ⟨s, q, o, rfl, ⟨by omega, by omega, by omega⟩, fun ho => by omega, h1, h2, h3⟩

theorem run_got1_5 (B g gx : Nat) (s q o n : Int) (hi : Inv s q o) (h : o < 0 ∧ 0 ≤ n ∧ n ≤ 2147483647 ∧ 0 ≤ q ∧ n < q) (w : World) (hd : Blk w g 93 (conc s q o).cells) (hx : Blk w gx 77 (R s q o)) (hB : B ≤ g ∧ B ≤ gx) :
    Calls Try.prog 48 #[.pointer (some ⟨g, 0, none⟩), .pointer (some ⟨gx, 0, none⟩), .agg #[.int .i64 1, .int .i64 n, .int .i64 0]] w (DoPost B g gx o w) := by
  have hf := gotF_5 s q o n h
  refine (do_got1 B g gx _ _ _ _ n 0 0 (fun w hw => got_any g _ _ _ _ _ _ n 0 0 _ hf w hw) (fun w hw => reftake_less gx s q o n h.1 h.2.1 h.2.2.1 h.2.2.2.1 h.2.2.2.2 w hw) w hd hx hB).mono ?_
  rintro e w' ⟨rfl, h1, h2, h3⟩
  obtain ⟨i0, i1, i2⟩ := hi
  exact ⟨s, n, o, rfl, ⟨by omega, by omega, by omega⟩, fun ho => by omega, h1, h2, h3⟩

theorem run_got2_5 (B g gx : Nat) (s q o n : Int) (hi : Inv s q o) (h : o < 0 ∧ 0 ≤ n ∧ n ≤ 2147483647 ∧ 0 ≤ q ∧ n < q) (w : World) (hd : Blk w g 93 (conc s q o).cells) (hx : Blk w gx 77 (R s q o)) (hB : B ≤ g ∧ B ≤ gx) :
    Calls Try.prog 48 #[.pointer (some ⟨g, 0, none⟩), .pointer (some ⟨gx, 0, none⟩), .agg #[.int .i64 2, .int .i64 n, .int .i64 0]] w (DoPost B g gx o w) := by
  have hf := gotF_5 s q o n h
  refine (do_got2 B g gx _ _ _ _ n 0 0 (fun w hw => got_any g _ _ _ _ _ _ n 0 0 _ hf w hw) (fun w hw => reftake_less gx s q o n h.1 h.2.1 h.2.2.1 h.2.2.2.1 h.2.2.2.2 w hw) w hd hx hB).mono ?_
  rintro e w' ⟨rfl, h1, h2, h3⟩
  obtain ⟨i0, i1, i2⟩ := hi
  exact ⟨s, n, o, rfl, ⟨by omega, by omega, by omega⟩, fun ho => by omega, h1, h2, h3⟩

theorem run_got1_6 (B g gx : Nat) (s q o n : Int) (hi : Inv s q o) (h : o < 0 ∧ 0 ≤ n ∧ n ≤ 2147483647 ∧ q < 0) (w : World) (hd : Blk w g 93 (conc s q o).cells) (hx : Blk w gx 77 (R s q o)) (hB : B ≤ g ∧ B ≤ gx) :
    Calls Try.prog 48 #[.pointer (some ⟨g, 0, none⟩), .pointer (some ⟨gx, 0, none⟩), .agg #[.int .i64 1, .int .i64 n, .int .i64 0]] w (DoPost B g gx o w) := by
  have hf := gotF_6 s q o n h
  refine (do_got1 B g gx _ _ _ _ n 0 0 (fun w hw => got_any g _ _ _ _ _ _ n 0 0 _ hf w hw) (fun w hw => reftake_first gx s q o n h.1 h.2.1 h.2.2.1 h.2.2.2 w hw) w hd hx hB).mono ?_
  rintro e w' ⟨rfl, h1, h2, h3⟩
  obtain ⟨i0, i1, i2⟩ := hi
  exact ⟨s, n, o, rfl, ⟨by omega, by omega, by omega⟩, fun ho => by omega, h1, h2, h3⟩

theorem run_got2_6 (B g gx : Nat) (s q o n : Int) (hi : Inv s q o) (h : o < 0 ∧ 0 ≤ n ∧ n ≤ 2147483647 ∧ q < 0) (w : World) (hd : Blk w g 93 (conc s q o).cells) (hx : Blk w gx 77 (R s q o)) (hB : B ≤ g ∧ B ≤ gx) :
    Calls Try.prog 48 #[.pointer (some ⟨g, 0, none⟩), .pointer (some ⟨gx, 0, none⟩), .agg #[.int .i64 2, .int .i64 n, .int .i64 0]] w (DoPost B g gx o w) := by
  have hf := gotF_6 s q o n h
  refine (do_got2 B g gx _ _ _ _ n 0 0 (fun w hw => got_any g _ _ _ _ _ _ n 0 0 _ hf w hw) (fun w hw => reftake_first gx s q o n h.1 h.2.1 h.2.2.1 h.2.2.2 w hw) w hd hx hB).mono ?_
  rintro e w' ⟨rfl, h1, h2, h3⟩
  obtain ⟨i0, i1, i2⟩ := hi
  exact ⟨s, n, o, rfl, ⟨by omega, by omega, by omega⟩, fun ho => by omega, h1, h2, h3⟩

theorem run_step_0 (B g gx : Nat) (s q o n m : Int) (k : Int) (hk : k ≠ 0 ∧ k ≠ 1 ∧ k ≠ 2 ∧ k ≠ 3) (hi : Inv s q o) (h : 0 ≤ o) (w : World) (hd : Blk w g 93 (conc s q o).cells) (hx : Blk w gx 77 (R s q o)) (hB : B ≤ g ∧ B ≤ gx) :
    Calls Try.prog 48 #[.pointer (some ⟨g, 0, none⟩), .pointer (some ⟨gx, 0, none⟩), .agg #[.int .i64 k, .int .i64 n, .int .i64 m]] w (DoPost B g gx o w) := by
  have hf := stepF_0 s q o n h
  have hr : true = (conc s q o).over := by simp [conc] <;> omega
  refine (do_step B g gx _ _ _ _ k n m true (fun w hw => step_any g _ _ _ _ _ _ n _ true hf hr w hw) (fun w hw => refstep_over gx s q o n h w hw) hk w hd hx hB).mono ?_
  rintro e w' ⟨rfl, h1, h2, h3⟩
  obtain ⟨i0, i1, i2⟩ := hi
  exact ⟨s, q, o, rfl, ⟨by omega, by omega, by omega⟩, fun ho => by omega, h1, h2, h3⟩

theorem run_step_1 (B g gx : Nat) (s q o n m : Int) (k : Int) (hk : k ≠ 0 ∧ k ≠ 1 ∧ k ≠ 2 ∧ k ≠ 3) (hi : Inv s q o) (h : o < 0 ∧ 0 < n) (w : World) (hd : Blk w g 93 (conc s q o).cells) (hx : Blk w gx 77 (R s q o)) (hB : B ≤ g ∧ B ≤ gx) :
    Calls Try.prog 48 #[.pointer (some ⟨g, 0, none⟩), .pointer (some ⟨gx, 0, none⟩), .agg #[.int .i64 k, .int .i64 n, .int .i64 m]] w (DoPost B g gx o w) := by
  have hf := stepF_1 s q o n h
  have hr : false = (conc s q o).over := by simp [conc] <;> omega
  refine (do_step B g gx _ _ _ _ k n m false (fun w hw => step_any g _ _ _ _ _ _ n _ false hf hr w hw) (fun w hw => refstep_left gx s q o n h.1 h.2 w hw) hk w hd hx hB).mono ?_
  rintro e w' ⟨rfl, h1, h2, h3⟩
  obtain ⟨i0, i1, i2⟩ := hi
  exact ⟨s, q, o, rfl, ⟨by omega, by omega, by omega⟩, fun ho => by omega, h1, h2, h3⟩

theorem run_step_2 (B g gx : Nat) (s q o n m : Int) (k : Int) (hk : k ≠ 0 ∧ k ≠ 1 ∧ k ≠ 2 ∧ k ≠ 3) (hi : Inv s q o) (h : o < 0 ∧ n ≤ 0 ∧ s < 0 ∧ q < 0) (w : World) (hd : Blk w g 93 (conc s q o).cells) (hx : Blk w gx 77 (R s q o)) (hB : B ≤ g ∧ B ≤ gx) :
    Calls Try.prog 48 #[.pointer (some ⟨g, 0, none⟩), .pointer (some ⟨gx, 0, none⟩), .agg #[.int .i64 k, .int .i64 n, .int .i64 m]] w (DoPost B g gx o w) := by
  have hf := stepF_2 s q o n h
  have hr : false = (conc s q o).over := by simp [conc] <;> omega
  refine (do_step B g gx _ _ _ _ k n m false (fun w hw => step_any g _ _ _ _ _ _ n _ false hf hr w hw) (fun w hw => refstep_none gx s q o n h.1 h.2.1 h.2.2.1 h.2.2.2 w hw) hk w hd hx hB).mono ?_
  rintro e w' ⟨rfl, h1, h2, h3⟩
  obtain ⟨i0, i1, i2⟩ := hi
  exact ⟨s, q, o, rfl, ⟨by omega, by omega, by omega⟩, fun ho => by omega, h1, h2, h3⟩

theorem run_step_3 (B g gx : Nat) (s q o n m : Int) (k : Int) (hk : k ≠ 0 ∧ k ≠ 1 ∧ k ≠ 2 ∧ k ≠ 3) (hi : Inv s q o) (h : o < 0 ∧ n ≤ 0 ∧ 0 ≤ s) (w : World) (hd : Blk w g 93 (conc s q o).cells) (hx : Blk w gx 77 (R s q o)) (hB : B ≤ g ∧ B ≤ gx) :
    Calls Try.prog 48 #[.pointer (some ⟨g, 0, none⟩), .pointer (some ⟨gx, 0, none⟩), .agg #[.int .i64 k, .int .i64 n, .int .i64 m]] w (DoPost B g gx o w) := by
  have hf := stepF_3 s q o n h
  have hr : true = (conc s q 0).over := by simp [conc] <;> omega
  refine (do_step B g gx _ _ _ _ k n m true (fun w hw => step_any g _ _ _ _ _ _ n _ true hf hr w hw) (fun w hw => refstep_sent gx s q o n h.1 h.2.1 h.2.2 w hw) hk w hd hx hB).mono ?_
  rintro e w' ⟨rfl, h1, h2, h3⟩
  obtain ⟨i0, i1, i2⟩ := hi
  exact ⟨s, q, 0, rfl, ⟨by omega, by omega, by omega⟩, fun ho => by omega, h1, h2, h3⟩

theorem run_step_4 (B g gx : Nat) (s q o n m : Int) (k : Int) (hk : k ≠ 0 ∧ k ≠ 1 ∧ k ≠ 2 ∧ k ≠ 3) (hi : Inv s q o) (h : o < 0 ∧ n ≤ 0 ∧ s < 0 ∧ 0 ≤ q) (w : World) (hd : Blk w g 93 (conc s q o).cells) (hx : Blk w gx 77 (R s q o)) (hB : B ≤ g ∧ B ≤ gx) :
    Calls Try.prog 48 #[.pointer (some ⟨g, 0, none⟩), .pointer (some ⟨gx, 0, none⟩), .agg #[.int .i64 k, .int .i64 n, .int .i64 m]] w (DoPost B g gx o w) := by
  have hf := stepF_4 s q o n h
  have hr : true = (conc s q 0).over := by simp [conc] <;> omega
  refine (do_step B g gx _ _ _ _ k n m true (fun w hw => step_any g _ _ _ _ _ _ n _ true hf hr w hw) (fun w hw => refstep_got gx s q o n h.1 h.2.1 h.2.2.1 h.2.2.2 w hw) hk w hd hx hB).mono ?_
  rintro e w' ⟨rfl, h1, h2, h3⟩
  obtain ⟨i0, i1, i2⟩ := hi
  exact ⟨s, q, 0, rfl, ⟨by omega, by omega, by omega⟩, fun ho => by omega, h1, h2, h3⟩

theorem do_any (B g gx : Nat) (s q o k n m : Int) (hi : Inv s q o) (w : World) (hd : Blk w g 93 (conc s q o).cells) (hx : Blk w gx 77 (R s q o)) (hB : B ≤ g ∧ B ≤ gx) :
    Calls Try.prog 48 #[.pointer (some ⟨g, 0, none⟩), .pointer (some ⟨gx, 0, none⟩), .agg #[.int .i64 k, .int .i64 n, .int .i64 m]] w (DoPost B g gx o w) := by
  have hk : k = 0 ∨ k = 1 ∨ k = 2 ∨ k = 3 ∨ (k ≠ 0 ∧ k ≠ 1 ∧ k ≠ 2 ∧ k ≠ 3) := by omega
  rcases hk with rfl | rfl | rfl | rfl | hk
  · have hc : (0 ≤ o) ∨ (o < 0 ∧ (n < 0 ∨ 2147483647 < n)) ∨ (o < 0 ∧ 0 ≤ n ∧ n ≤ 2147483647 ∧ 0 ≤ s) ∨ (o < 0 ∧ 0 ≤ n ∧ n ≤ 2147483647 ∧ s < 0) := by omega
    rcases hc with h | h | h | h
    · exact run_send_0 B g gx s q o n m hi h w hd hx hB
    · exact run_send_1 B g gx s q o n m hi h w hd hx hB
    · exact run_send_2 B g gx s q o n m hi h w hd hx hB
    · exact run_send_3 B g gx s q o n m hi h w hd hx hB
  · have hc : (0 ≤ o) ∨ (o < 0 ∧ (n < 0 ∨ 2147483647 < n)) ∨ (o < 0 ∧ 0 ≤ n ∧ n ≤ 2147483647 ∧ (m < 0 ∨ 2147483647 < m)) ∨ (o < 0 ∧ 0 ≤ n ∧ n ≤ 2147483647 ∧ 1 ≤ m ∧ m ≤ 2147483647) ∨ (m = 0 ∧ o < 0 ∧ 0 ≤ n ∧ n ≤ 2147483647 ∧ 0 ≤ q ∧ q ≤ n) ∨ (m = 0 ∧ o < 0 ∧ 0 ≤ n ∧ n ≤ 2147483647 ∧ 0 ≤ q ∧ n < q) ∨ (m = 0 ∧ o < 0 ∧ 0 ≤ n ∧ n ≤ 2147483647 ∧ q < 0) := by omega
    rcases hc with h | h | h | h | h | h | h
    · exact run_got1_0 B g gx s q o n m hi h w hd hx hB
    · exact run_got1_1 B g gx s q o n m hi h w hd hx hB
    · exact run_got1_2 B g gx s q o n m hi h w hd hx hB
    · exact run_got1_3 B g gx s q o n m hi h w hd hx hB
    · obtain ⟨rfl, h⟩ := h
      exact run_got1_4 B g gx s q o n hi h w hd hx hB
    · obtain ⟨rfl, h⟩ := h
      exact run_got1_5 B g gx s q o n hi h w hd hx hB
    · obtain ⟨rfl, h⟩ := h
      exact run_got1_6 B g gx s q o n hi h w hd hx hB
  · have hc : (0 ≤ o) ∨ (o < 0 ∧ (n < 0 ∨ 2147483647 < n)) ∨ (o < 0 ∧ 0 ≤ n ∧ n ≤ 2147483647 ∧ (m < 0 ∨ 2147483647 < m)) ∨ (o < 0 ∧ 0 ≤ n ∧ n ≤ 2147483647 ∧ 1 ≤ m ∧ m ≤ 2147483647) ∨ (m = 0 ∧ o < 0 ∧ 0 ≤ n ∧ n ≤ 2147483647 ∧ 0 ≤ q ∧ q ≤ n) ∨ (m = 0 ∧ o < 0 ∧ 0 ≤ n ∧ n ≤ 2147483647 ∧ 0 ≤ q ∧ n < q) ∨ (m = 0 ∧ o < 0 ∧ 0 ≤ n ∧ n ≤ 2147483647 ∧ q < 0) := by omega
    rcases hc with h | h | h | h | h | h | h
    · exact run_got2_0 B g gx s q o n m hi h w hd hx hB
    · exact run_got2_1 B g gx s q o n m hi h w hd hx hB
    · exact run_got2_2 B g gx s q o n m hi h w hd hx hB
    · exact run_got2_3 B g gx s q o n m hi h w hd hx hB
    · obtain ⟨rfl, h⟩ := h
      exact run_got2_4 B g gx s q o n hi h w hd hx hB
    · obtain ⟨rfl, h⟩ := h
      exact run_got2_5 B g gx s q o n hi h w hd hx hB
    · obtain ⟨rfl, h⟩ := h
      exact run_got2_6 B g gx s q o n hi h w hd hx hB
  · have hc : (0 ≤ o) ∨ (o < 0 ∧ (m < 0 ∨ 2147483647 < m)) ∨ (o < 0 ∧ m = 0) ∨ (o < 0 ∧ 1 ≤ m ∧ m ≤ 2147483647) := by omega
    rcases hc with h | h | h | h
    · exact run_fail_0 B g gx s q o n m hi h w hd hx hB
    · exact run_fail_1 B g gx s q o n m hi h w hd hx hB
    · exact run_fail_2 B g gx s q o n m hi h w hd hx hB
    · exact run_fail_3 B g gx s q o n m hi h w hd hx hB
  · have hc : (0 ≤ o) ∨ (o < 0 ∧ 0 < n) ∨ (o < 0 ∧ n ≤ 0 ∧ s < 0 ∧ q < 0) ∨ (o < 0 ∧ n ≤ 0 ∧ 0 ≤ s) ∨ (o < 0 ∧ n ≤ 0 ∧ s < 0 ∧ 0 ≤ q) := by omega
    rcases hc with h | h | h | h | h
    · exact run_step_0 B g gx s q o n m k hk hi h w hd hx hB
    · exact run_step_1 B g gx s q o n m k hk hi h w hd hx hB
    · exact run_step_2 B g gx s q o n m k hk hi h w hd hx hB
    · exact run_step_3 B g gx s q o n m k hk hi h w hd hx hB
    · exact run_step_4 B g gx s q o n m k hk hi h w hd hx hB

end Go.Proofs.Ytmjkfiadbllkfaa.Drain
