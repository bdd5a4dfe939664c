import Derived.Test.YtebiidfpgdolnaaModelL
namespace Go.Proofs.Ytebiidfpgdolnaa.Model
open Go.ChangeShapes Go.WideShapes Go.ChangeAt Go.RowKit Go.Deep
set_option linter.unusedVariables false
open Go.Lib
set_option linter.unusedSimpArgs false

/-! What holds stays. -/
theorem no12 {P : Prop} (h : (1 : Int) = 2) : P := absurd h (by decide)
theorem no21 {P : Prop} (h : (2 : Int) = 1) : P := absurd h (by decide)
theorem onTo_take (k : Int) (l : List (ByteArray × Bool)) (j : Nat) (hj : j ≤ l.length) : onTo k l j = ((l.take j).map (bitN k)).sum := by
  induction j with
  | zero => simp [onTo]
  | succ j ih =>
    have hp : l[j]? = some (l[j]'(by omega)) := List.getElem?_eq_getElem _
    rw [onTo_succ hp, ih (by omega), List.take_add_one, hp]
    rw [List.map_append, List.sum_append]
    simp
theorem onTo_all (k : Int) (l : List (ByteArray × Bool)) : onTo k l l.length = (l.map (bitN k)).sum := by
  rw [onTo_take k l _ (Nat.le_refl _), List.take_length]
theorem onTo_snoc (k : Int) (l : List (ByteArray × Bool)) (p : ByteArray × Bool) : onTo k (l ++ [p]) (l ++ [p]).length = onTo k l l.length + bitN k p := by
  rw [onTo_all, onTo_all]; simp [List.map_append, List.sum_append]
theorem onTo_cons (k : Int) (l : List (ByteArray × Bool)) (p : ByteArray × Bool) : onTo k (p :: l) (p :: l).length = bitN k p + onTo k l l.length := by
  rw [onTo_all, onTo_all]; simp

variable {t : St} {m : Nat}
theorem Inv.more (h : Inv t m) : Inv t (m + 1) := by
  obtain ⟨hk, hc0, hc1, hs, h1, h2, hway, hwz, hWz, hW, hV, hz, ha, hd, ht, hsum⟩ := h
  exact ⟨hk, hc0, hc1, hs, h1, h2, by omega, hwz, hWz, by omega, by omega, by omega, by omega, by omega, by omega, hsum⟩

theorem inv_sent (h : Inv t m) (s : ByteArray) (e : Bool) : Inv (sentOf t s e) (m + 1) := by
  unfold sentOf
  split
  · rename_i hok
    obtain ⟨hou, hok⟩ := hok
    obtain ⟨k, c, st, W, y, way, V, z, en, ou, ca, ac, dr, tl⟩ := t
    obtain ⟨hk, hc0, hc1, hs, h1, h2, hway, hwz, hWz, hW, hV, hz, ha, hd, ht, hsum⟩ := h
    simp only at *
    rcases hk with rfl | rfl
    · have hfit : fitsB y s en e = true := by simpa [okNext] using hok
      simp only [fitsB, Bool.and_eq_true, decide_eq_true_eq] at hfit
      obtain ⟨⟨⟨f1, f2⟩, f3⟩, f4⟩ := hfit
      obtain ⟨rfl, rfl, hyc⟩ := h1 rfl
      have ha2 : afterSent ⟨1, c, st, [], y, way, [], z, en, ou, ca, ac, dr, tl⟩ s e = ⟨1, c, st, [], y.extract s.size y.size, way ++ [(s, e)], [], z, en, e, ca, ac, dr, tl⟩ := by simp [afterSent]
      rw [ha2]
      have hys : (y.extract s.size y.size).size = y.size - s.size := by simp
      have hon := onTo_snoc 1 way (s, e)
      have hb : bitN 1 (s, e) = (s.size : Int) := by simp [bitN]
      refine ⟨.inl rfl, hc0, hc1, no12, fun _ => ⟨rfl, rfl, by simp only; omega⟩, no12, by simp; omega, ?_, by simp, by simp, by simp, by simp only; omega, by simp only; omega, by simp only; omega, by simp only; omega, ?_⟩
      · intro p hp
        simp at hp
        rcases hp with hp | rfl
        · exact hwz p hp
        · simp only; omega
      · simp only at hsum ⊢
        rw [hon, hb, hys]
        simp at hsum ⊢
        omega
    · obtain ⟨hy0, hz0⟩ := h2 rfl
      cases e with
      | true =>
        have ha2 : afterSent ⟨2, c, st, W, y, way, V, z, en, ou, ca, ac, dr, tl⟩ s true = ⟨2, c, st, W, y, way ++ [(s, true)], V, z, en, true, ca, ac, dr, tl⟩ := by simp [afterSent]
        rw [ha2]
        have hs0 : s = ⟨#[]⟩ := by
          have : (decide (s = ⟨#[]⟩) && W.isEmpty && en) = true := by simpa [okNext] using hok
          simp at this
          exact this.1.1
        have hon := onTo_snoc 2 way (s, true)
        have hb : bitN 2 (s, true) = 0 := by simp [bitN]
        refine ⟨.inr rfl, hc0, hc1, hs, no21, h2, by simp; omega, ?_, hWz, by simp only; omega, by simp only; omega, by simp only; omega, by simp only; omega, by simp only; omega, by simp only; omega, ?_⟩
        · intro p hp
          simp at hp
          rcases hp with hp | rfl
          · exact hwz p hp
          · subst hs0; exact Nat.zero_le _
        · simp only
          rw [hon, hb]
          omega
      | false =>
        cases W with
        | nil => simp [okNext] at hok
        | cons a W =>
          obtain rfl : a = s := by simpa [okNext] using hok
          have ha2 : afterSent ⟨2, c, st, a :: W, y, way, V, z, en, ou, ca, ac, dr, tl⟩ a false = ⟨2, c, st, W, y, way ++ [(a, false)], V, z, en, false, ca, ac, dr, tl⟩ := by simp [afterSent]
          rw [ha2]
          have hon := onTo_snoc 2 way (a, false)
          have hb : bitN 2 (a, false) = 1 := by simp [bitN]
          simp only [List.length_cons] at hW hsum
          refine ⟨.inr rfl, hc0, hc1, hs, no21, h2, by simp; omega, ?_, fun x hx => hWz x (by simp [hx]), by simp only; omega, by simp only; omega, by simp only; omega, by simp only; omega, by simp only; omega, by simp only; omega, ?_⟩
          · intro p hp
            simp at hp
            rcases hp with hp | rfl
            · exact hwz p hp
            · exact hWz a (by simp)
          · simp only
            rw [hon, hb]
            omega
  · exact h.more

theorem way_cons {k : Int} {p : ByteArray × Bool} {r : List (ByteArray × Bool)} : onTo k (p :: r) (r.length + 1) = bitN k p + onTo k r r.length := onTo_cons k r p

theorem inv_came (h : Inv t m) (s : ByteArray) (e : Bool) : Inv (cameOf t s e) (m + 1) := by
  unfold cameOf
  split
  · rename_i hok
    obtain ⟨k, c, st, W, y, way, V, z, en, ou, ca, ac, dr, tl⟩ := t
    obtain ⟨hk, hc0, hc1, hs, h1, h2, hway, hwz, hWz, hW, hV, hz, ha, hd, ht, hsum⟩ := h
    simp only at *
    cases way with
    | nil => simp at hok
    | cons p r =>
      obtain rfl : p = (s, e) := by simpa using hok
      have hpz := hwz (s, e) (by simp)
      simp only at hpz
      simp only [List.length_cons] at hway hsum
      rw [way_cons] at hsum
      rcases hk with rfl | rfl
      · obtain ⟨rfl, rfl, hyc⟩ := h1 rfl
        have ha2 : afterCame ⟨1, c, st, [], y, (s, e) :: r, [], z, en, ou, ca, ac, dr, tl⟩ s e = ⟨1, c, st, [], y, r, [], z ++ s, en, ou, e, ac, dr, tl⟩ := by simp [afterCame]
        rw [ha2]
        have hb : bitN 1 (s, e) = (s.size : Int) := by simp [bitN]
        have hzs : (z ++ s).size = z.size + s.size := ByteArray.size_append
        rw [hb] at hsum
        refine ⟨.inl rfl, hc0, hc1, no12, fun _ => ⟨rfl, rfl, hyc⟩, no12, by simp only; omega, fun p hp => hwz p (by simp [hp]), by simp, by simp, by simp, by simp only; omega, by simp only; omega, by simp only; omega, by simp only; omega, ?_⟩
        simp only at hsum ⊢
        rw [hzs]
        simp at hsum ⊢
        omega
      · obtain ⟨hy0, hz0⟩ := h2 rfl
        cases e with
        | true =>
          have ha2 : afterCame ⟨2, c, st, W, y, (s, true) :: r, V, z, en, ou, ca, ac, dr, tl⟩ s true = ⟨2, c, st, W, y, r, V, z, en, ou, true, ac, dr, tl⟩ := by simp [afterCame]
          rw [ha2]
          have hb : bitN 2 (s, true) = 0 := by simp [bitN]
          rw [hb] at hsum
          refine ⟨.inr rfl, hc0, hc1, hs, no21, h2, by simp only; omega, fun p hp => hwz p (by simp [hp]), hWz, by simp only; omega, by simp only; omega, by simp only; omega, by simp only; omega, by simp only; omega, by simp only; omega, ?_⟩
          simp only
          omega
        | false =>
          have ha2 : afterCame ⟨2, c, st, W, y, (s, false) :: r, V, z, en, ou, ca, ac, dr, tl⟩ s false = ⟨2, c, st, W, y, r, V ++ [s], z, en, ou, false, ac, dr, tl⟩ := by simp [afterCame]
          rw [ha2]
          have hb : bitN 2 (s, false) = 1 := by simp [bitN]
          rw [hb] at hsum
          refine ⟨.inr rfl, hc0, hc1, hs, no21, h2, by simp only; omega, fun p hp => hwz p (by simp [hp]), hWz, by simp only; omega, by simp; omega, by simp only; omega, by simp only; omega, by simp only; omega, by simp only; omega, ?_⟩
          simp
          omega
  · exact h.more

theorem way_pos (hwz : ∀ p ∈ t.way, p.1.size ≤ 4096) : 0 ≤ onTo t.k t.way t.way.length := (onTo_bnd t.k t.way (fun p hp => by have := hwz p hp; omega) _).1

theorem inv_read (h : Inv t m) (n : Int) : Inv (readOf t n) (m + 1) := by
  have hp := way_pos h.hwz
  obtain ⟨k, c, st, W, y, way, V, z, en, ou, ca, ac, dr, tl⟩ := t
  obtain ⟨hk, hc0, hc1, hs, h1, h2, hway, hwz, hWz, hW, hV, hz, ha, hd, ht, hsum⟩ := h
  unfold readOf
  simp only at *
  obtain ⟨q, hq⟩ : ∃ q : Nat, max (min n (z.size : Int)) 0 = q := ⟨(max (min n (z.size : Int)) 0).toNat, by omega⟩
  have hqz : q ≤ z.size := by omega
  rw [hq, Int.toNat_natCast]
  have hzs : (z.extract q z.size).size = z.size - q := by simp
  refine ⟨hk, hc0, hc1, hs, h1, fun h => ⟨(h2 h).1, by simp only; rw [hzs]; have := (h2 h).2; omega⟩, by simp only; omega, hwz, hWz, by simp only; omega, by simp only; omega, by simp only; omega, by simp only; omega, by simp only; omega, by simp only; omega, ?_⟩
  simp only
  rw [hzs]
  omega

theorem inv_take (h : Inv t m) : Inv (match t.V with | [] => t | _ :: r => { t with V := r, tl := t.tl + 1 }) (m + 1) := by
  have hp := way_pos h.hwz
  cases hV0 : t.V with
  | nil => exact h.more
  | cons a r =>
    obtain ⟨k, c, st, W, y, way, V, z, en, ou, ca, ac, dr, tl⟩ := t
    obtain ⟨hk, hc0, hc1, hs, h1, h2, hway, hwz, hWz, hW, hV, hz, ha, hd, ht, hsum⟩ := h
    simp only at *
    subst hV0
    simp only [List.length_cons] at hV hsum
    refine ⟨hk, hc0, hc1, hs, fun h => ?_, h2, by simp only; omega, hwz, hWz, by simp only; omega, by simp only; omega, by simp only; omega, by simp only; omega, by simp only; omega, by simp only; omega, ?_⟩
    · have := (h1 h).2.1
      cases this
    · simp only
      omega

theorem inv_fin (h : Inv t m) : Inv { t with en := true } (m + 1) := by
  have h := h.more
  obtain ⟨hk, hc0, hc1, hs, h1, h2, hway, hwz, hWz, hW, hV, hz, ha, hd, ht, hsum⟩ := h
  exact ⟨hk, hc0, hc1, hs, h1, h2, hway, hwz, hWz, hW, hV, hz, ha, hd, ht, hsum⟩

theorem inv_item (h : Inv t m) (hk2 : t.k = 2) (s : ByteArray) : Inv (itemOf t s).1 (m + 1) := by
  have hp := way_pos h.hwz
  unfold itemOf
  split
  · exact h.more
  rename_i hbig
  obtain ⟨k, c, st, W, y, way, V, z, en, ou, ca, ac, dr, tl⟩ := t
  obtain ⟨hk, hc0, hc1, hs, h1, h2, hway, hwz, hWz, hW, hV, hz, ha, hd, ht, hsum⟩ := h
  simp only at *
  subst hk2
  have hWs : ∀ x ∈ W ++ [s], x.size ≤ 4096 := by
    intro x hx
    simp at hx
    rcases hx with hx | rfl
    · exact hWz x hx
    · omega
  split
  · refine ⟨.inr rfl, hc0, hc1, hs, no21, h2, by simp only [kept]; omega, hwz, hWs, by simp [kept]; omega, by simp only [kept]; omega, by simp only [kept]; omega, by simp only [kept]; omega, by simp only [kept]; omega, by simp only [kept]; omega, ?_⟩
    simp [kept]
    omega
  rename_i hfull
  split
  · exact ⟨.inr rfl, hc0, hc1, hs, h1, h2, by simp only; omega, hwz, hWz, by simp only; omega, by simp only; omega, by simp only; omega, by simp only; omega, by simp only; omega, by simp only; omega, hsum⟩
  split
  · refine ⟨.inr rfl, hc0, hc1, hs, h1, h2, by simp only; omega, hwz, hWz, by simp only; omega, by simp only; omega, by simp only; omega, by simp only; omega, by simp only; omega, by simp only; omega, ?_⟩
    simp only
    omega
  rename_i h3
  cases W with
  | nil =>
    exfalso
    have : c = 0 := by
      have : (([] : List ByteArray).length : Int) = 0 := rfl
      omega
    exact h3 (.inr this)
  | cons a W =>
    simp only [List.length_cons] at hW hsum
    refine ⟨.inr rfl, hc0, hc1, hs, no21, h2, by simp only [kept]; omega, hwz, fun x hx => hWs x (by simp [kept] at hx ⊢; rcases hx with hx | rfl; exact .inr (.inl hx); exact .inr (.inr rfl)), by simp [kept]; omega, by simp only [kept]; omega, by simp only [kept]; omega, by simp only [kept]; omega, by simp only [kept]; omega, by simp only [kept]; omega, ?_⟩
    simp [kept]
    omega

theorem inv_offer (h : Inv t m) (s : ByteArray) : Inv (offerOf t s).1 (m + 1) := by
  have hp := way_pos h.hwz
  unfold offerOf
  split
  · exact h.more
  split
  · rename_i hk1
    obtain ⟨k, c, st, W, y, way, V, z, en, ou, ca, ac, dr, tl⟩ := t
    obtain ⟨hk, hc0, hc1, hs, h1, h2, hway, hwz, hWz, hW, hV, hz, ha, hd, ht, hsum⟩ := h
    simp only at *
    subst hk1
    obtain ⟨rfl, rfl, hyc⟩ := h1 rfl
    obtain ⟨n, hn⟩ : ∃ n, min (c.toNat - y.size) s.size = n := ⟨_, rfl⟩
    rw [hn]
    have hys : (y ++ s.extract 0 n).size = y.size + n := by
      rw [ByteArray.size_append, ByteArray.size_extract]
      omega
    refine ⟨.inl rfl, hc0, hc1, no12, fun _ => ⟨rfl, rfl, by simp only; rw [hys]; omega⟩, no12, by simp only; omega, hwz, hWz, by simp only; omega, by simp only; omega, by simp only; omega, by simp only; omega, by simp only; omega, by simp only; omega, ?_⟩
    simp only
    rw [hys]
    omega
  · rename_i hk1
    exact inv_item h (by rcases h.hk with h | h; exact absurd h hk1; exact h) s

theorem inv_step (h : Inv t m) (K N : Int) (s : ByteArray) (e : Bool) : Inv (stepOf t K N s e) (m + 1) := by
  unfold stepOf
  split
  · split
    · exact inv_fin h
    · exact h.more
  split
  · exact inv_sent h s e
  split
  · exact inv_sent h _ _
  split
  · exact inv_came h s e
  split
  · cases hw : t.way with
    | nil => exact h.more
    | cons p r => exact inv_came h p.1 p.2
  split
  · exact inv_read h N
  split
  · exact inv_take h
  exact inv_offer h s

theorem inv_new (k c s : Int) (hk : k = 1 ∧ c ≤ 4096 ∨ k = 2 ∧ c ≤ 64 ∧ 0 ≤ s ∧ s ≤ 2) (h0 : 0 ≤ c) : Inv ⟨k, c, s, [], ⟨#[]⟩, [], [], ⟨#[]⟩, false, false, false, 0, 0, 0⟩ 0 := by
  refine ⟨by rcases hk with h | h; exact .inl h.1; exact .inr h.1, h0, by rcases hk with h | h; exact h.2; have := h.2.1; simp only; omega, fun h2 => ?_, fun _ => ⟨rfl, rfl, h0⟩, fun _ => ⟨rfl, rfl⟩, Nat.le_refl _, by simp, by simp, Nat.le_refl _, Nat.le_refl _, Nat.zero_le _, ⟨Int.le_refl _, by simp⟩, ⟨Int.le_refl _, by simp⟩, ⟨Int.le_refl _, by simp⟩, rfl⟩
  rcases hk with h | h
  · rw [h.1] at h2
    exact no12 h2
  · exact ⟨h.2.2.1, h.2.2.2⟩

end Go.Proofs.Ytebiidfpgdolnaa.Model
