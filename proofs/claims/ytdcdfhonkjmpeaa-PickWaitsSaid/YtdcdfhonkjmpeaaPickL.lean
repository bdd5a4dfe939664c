import Derived.Test.YtdcdfhonkjmpeaaPickZ
namespace Go.Proofs.Ytdcdfhonkjmpeaa.Pick
open Go.ChangeShapes Go.WideShapes Go.ChangeAt Go.RowKit Go.Deep
set_option linter.unusedVariables false
open Go.Maps (Keyed)

/-- How many are still to come, as a number of entries. -/
theorem ranges_cnt {H : Type} {P : Program} {k : TypeId} {R : Value → Option (DataW H × List MemPlace)} {w : World} {b r n : Nat} {D : DataW H} {left : Lit → Bool} {cnt : Nat} (h : w.ranges P k R b r n D left cnt) :
    ∃ es, D = .map es ∧ (es.filter fun p => left p.1).length = cnt := by
  obtain ⟨es, clock, since, seen, c0, _, _, _, hD, _, _, hc, hl, _⟩ := h
  refine ⟨_, hD, ?_⟩
  rw [((sorted_perm (es.toList.map (WideElems.rg P k R))).filter _).length_eq, ← hc]
  have e1 : (leftOf es seen).size = (es.toList.filter fun e => !seen.contains e.born).length := by
    unfold leftOf
    rw [← Array.toList_filter, Array.length_toList]
  rw [List.filter_map, List.length_map, e1]
  congr 1
  exact List.filter_congr fun x hx => hl x hx

theorem filter_one {A : Type} (key : A → Lit) (left : Lit → Bool) (kl : Lit) (hk : ∀ z : Lit, z.sameKey kl = true ↔ z = kl) :
    ∀ es : List A, es.Pairwise (fun p q => key p ≠ key q) → left kl = true → (∃ p ∈ es, key p = kl) → (es.filter fun p => left (key p) && !(key p).sameKey kl).length + 1 = (es.filter fun p => left (key p)).length
  | [], _, _, h => by obtain ⟨p, hp, _⟩ := h; simp at hp
  | a :: es, hp, hl, h => by
    obtain ⟨h1, h2⟩ := List.pairwise_cons.1 hp
    by_cases ha : key a = kl
    · have hs : (key a).sameKey kl = true := (hk _).2 ha
      have hrest : (es.filter fun p => left (key p) && !(key p).sameKey kl) = es.filter fun p => left (key p) := by
        refine List.filter_congr fun p hpm => ?_
        have : (key p).sameKey kl = false := by
          cases e : (key p).sameKey kl with
          | false => rfl
          | true => exact absurd (ha.trans ((hk _).1 e).symm) (h1 p hpm)
        rw [this]; simp
      rw [List.filter_cons, List.filter_cons, if_neg (by rw [hs]; simp), if_pos (by rw [ha, hl]), hrest]
      rfl
    · have hs : (key a).sameKey kl = false := by
        cases e : (key a).sameKey kl with
        | false => rfl
        | true => exact absurd ((hk _).1 e) ha
      obtain ⟨p, hpm, hpk⟩ := h
      have ih := filter_one key left kl hk es h2 hl ⟨p, by rcases List.mem_cons.1 hpm with e | e; exact absurd (e ▸ hpk) ha; exact e, hpk⟩
      rw [List.filter_cons, List.filter_cons, hs]
      cases left (key a)
      · simpa using ih
      · simp; omega

theorem ranges_pred {P : Program} {k : TypeId} {R : Value → Option (DataW Unit × List MemPlace)} {w w' : World} {b r n : Nat} {D : DataW Unit} {left : Lit → Bool} {cnt cnt' : Nat} {i : Int} (K : Keyed P k) (h : w.ranges P k R b r n D left cnt) (hl : left (.int .i64 i) = true)
    (h' : w'.ranges P k R b r n D (fun z => left z && !z.sameKey (.int .i64 i)) cnt') : cnt' + 1 = cnt := by
  obtain ⟨es, rfl, hc⟩ := ranges_cnt h
  obtain ⟨es', he, hc'⟩ := ranges_cnt h'
  injection he with he
  subst he
  obtain ⟨es2, he2, hp, hkk⟩ := h.owns.entries K
  injection he2 with he2
  subst he2
  have hex : ∃ p ∈ es, p.1 = Lit.int .i64 i := by
    obtain ⟨_, _, _, _, _, _, _, _, hD, _, _, _, _, hx, _⟩ := h
    obtain ⟨x, hx1, hx2⟩ := hx _ hl
    injection hD with hD
    rw [hD]
    exact ⟨_, mem_sorted.2 (List.mem_map.2 ⟨x, hx1, rfl⟩), hx2⟩
  rw [← hc, ← hc']
  exact filter_one (fun p : Lit × DataW Unit => p.1) left (.int .i64 i) (fun z => ⟨WideAt.sameKey_eq, fun e => by subst e; exact WideAt.sameKey_self (isKey i)⟩) es hp hl hex

set_option maxRecDepth 100000 in
theorem len_any (g mb n c : Nat) (f : Int → Int) (w : World) (hc : c ≤ 1000000) (h : Blk w g 97 #[.map (some mb)]) (hm : MapIs w mb n f c) :
    Calls Try.prog 43 #[.pointer (some ⟨g, 0, none⟩)] w fun e w' => e = .returned (.int .i64 (c : Int)) ∧ Below w.heap.size w w' := by
  have c0 : w.cell? ⟨g, 0, none⟩ = some (.map (some mb)) := h.cell 0
  obtain ⟨D, hD, _, _, hs⟩ := hm
  have HD := Lib.hid (And.intro hD hs)
  clear hD hs h
  go_enter Try.func43, Try.ntmps43
  go_wp2_with (at_range; refine wpList_range_own _ rfl _ 95 rfl 3 3 key3 und95 (plainElem Try.prog 3) mb n D rfl HD.out.1 ?_)
  intro w1 hr1 hg1 hz1
  go_wp2_with fail
  obtain ⟨B, hB⟩ : ∃ B, w.heap.size = B := ⟨_, rfl⟩
  rw [hB] at hr1 hz1 ⊢
  have hb1 : Below B w w1 := by rw [← hB]; exact ⟨hg1.os, hg1.tape, hg1.output, hg1.size, fun i hi => hg1.block i hi (by simp)⟩
  clear hg1
  have HB := Lib.hid hB
  clear hB
  go_loopw [3] (fun v wr => ∃ (left : Lit → Bool) (cnt j : Nat), v = .int .i64 (j : Int) ∧ j + cnt = c ∧ wr.ranges Try.prog 3 (plainElem Try.prog 3) mb B n D left cnt ∧ Below B w wr ∧ B < wr.heap.size) (fun _ wr => wr.rangeLeft mb B)
  case atStart => exact ⟨_, _, 0, rfl, by rw [Nat.zero_add]; exact HD.out.2, hr1, hb1, by omega⟩
  case round =>
    clear hr1 hb1
    obtain ⟨left, cnt, j, rfl, hjc, hrg, hbel, hsz⟩ := hrel
    have HR := Lib.hid (And.intro hrg (And.intro hbel hjc))
    clear hrg hbel hjc
    have hjb : j ≤ c := by have := HR.out.2.2; omega
    go_wp2_with (at_next; refine wpList_next_ranges_ii _ rfl _ rfl 3 3 .i64 .i64 key3 und3 und3 mb B n D left cnt rfl HR.out.1 ?_ ?_)
    · intro hc0 _
      have hj : j = c := by have := HR.out.2.2; omega
      subst hj
      go_wp2_with fail
      go_ret
      exact ⟨rfl, by rw [HB.out]; exact HR.out.2.1⟩
    · intro x y w2 cnt2 hwx hwy hl hat hrg2 hlt hg2 hs2 hen
      have hpred := ranges_pred key3 HR.out.1 hl hrg2
      have hb2 := below_only HR.out.2.1 hg2 (Nat.le_refl _) (by omega)
      have HR2 := Lib.hid (And.intro hrg2 (And.intro hb2 hpred))
      clear hwx hwy hl hat hrg2 hg2 hen hpred hb2
      have hjc2 : j < c := by have := HR.out.2.2; have := HR2.out.2.2; omega
      go_wp2_with fail
      go_roundw
      case rel => exact ⟨_, cnt2, j + 1, by go_num, by have := HR.out.2.2; have := HR2.out.2.2; omega, HR2.out.1, HR2.out.2.1, by omega⟩
      case measure => rw [HR2.out.1.left_eq, HR.out.1.left_eq]; exact hlt

end Go.Proofs.Ytdcdfhonkjmpeaa.Pick
