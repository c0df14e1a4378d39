/- Contracts: pools, the program's. (Printed by gen_E8.py.) -/
import Derived.Test.YtakjmdjjpalaiaaFnsE5
import Derived.Test.YtakjmdjjpalaiaaFnsE4
import Derived.Test.YtakjmdjjpalaiaaDrw
import Derived.Deep.Cut
import Derived.Deep.CutRange
import Derived.Deep.DeepCutAuto
namespace Go.Proofs.Ytakjmdjjpalaiaa
open Go.RowKit

/-- The signed number of a ring number. -/
def sgn (x : Int) : Int := if x < 2048 then x else x - 4096
theorem xor_all : ((List.range 4096).all fun n => bits .xor .i64 (n : Int) 2048 == (if n < 2048 then (n : Int) + 2048 else (n : Int) - 2048)) = true := by kernel_rfl
theorem xor2048 {x : Int} (h1 : 0 ≤ x) (h2 : x ≤ 4095) : bits .xor .i64 x 2048 = sgn x + 2048 := by
  obtain ⟨n, rfl⟩ := Int.eq_ofNat_of_zero_le h1
  have h := List.all_eq_true.1 xor_all n (List.mem_range.2 (by omega))
  rw [beq_iff_eq] at h
  rw [h]
  unfold sgn
  by_cases e : n < 2048
  · rw [if_pos e, if_pos (by omega)]
  · rw [if_neg e, if_neg (by omega)]; omega
theorem sgn_bound {x : Int} (h1 : 0 ≤ x) (h2 : x ≤ 4095) : -2048 ≤ sgn x ∧ sgn x ≤ 2047 := by unfold sgn; split <;> omega
theorem implSgn (x : Int) (w : World) (h1 : 0 ≤ x) (h2 : x ≤ 4095) : Calls Try.prog 29 #[.int .i64 x] w fun e w' => e = .returned (.int .i64 (sgn x)) ∧ w = w' := by
  have hx := xor2048 h1 h2
  have hb := sgn_bound h1 h2
  obtain ⟨s, hs⟩ : ∃ s, sgn x = s := ⟨_, rfl⟩
  rw [hs] at hx hb ⊢
  clear hs
  go_enter Try.func29, Try.ntmps29
  go_wp2_with fail
  refine (ringValid_yes _ _ h1 h2).mono ?_
  rintro e w' ⟨rfl, rfl⟩
  go_wp2
  go_ret
  exact ⟨by first | rfl | (simp; omega) | (congr 2; omega), rfl⟩
theorem specSgn (x : Int) (w : World) (h1 : 0 ≤ x) (h2 : x ≤ 4095) : Calls Try.prog 69 #[.int .i64 x] w fun e w' => e = .returned (.int .i64 (sgn x)) ∧ w = w' := by
  by_cases h : x < 2048
  · rw [show sgn x = x from if_pos h]
    go_enter Try.func69, Try.ntmps69
    go_wp2_with fail
    refine (specRingValid_yes _ _ h1 h2).mono ?_
    rintro e w' ⟨rfl, rfl⟩
    go_wp2
    go_ret
    exact ⟨rfl, rfl⟩
  · rw [show sgn x = x - 4096 from if_neg h]
    go_enter Try.func69, Try.ntmps69
    go_wp2_with fail
    refine (specRingValid_yes _ _ h1 h2).mono ?_
    rintro e w' ⟨rfl, rfl⟩
    go_wp2
    go_ret
    exact ⟨rfl, rfl⟩


theorem drew1 (w : World) : Drew w w.drew := ⟨1, rfl⟩
theorem addF_rng {a b : Int} (_ : 0 ≤ a ∧ a ≤ 4095) (_ : 0 ≤ b ∧ b ≤ 4095) : 0 ≤ addF a b ∧ addF a b ≤ 4095 := by unfold addF; omega
theorem topF_rng {a b : Int} (ha : 0 ≤ a ∧ a ≤ 4095) (hb : 0 ≤ b ∧ b ≤ 4095) : 0 ≤ topF a b ∧ topF a b ≤ 4095 := by unfold topF; split <;> assumption
theorem poolTo_rng (f : Int → Int → Int) (hf : ∀ a b, 0 ≤ a ∧ a ≤ 4095 → 0 ≤ b ∧ b ≤ 4095 → 0 ≤ f a b ∧ f a b ≤ 4095) (s pr pc : Nat) (zs : List Int) (hz : ∀ p, 0 ≤ zs.getD p 0 ∧ zs.getD p 0 ≤ 4095) (k : Nat) : ∀ p, 0 ≤ (poolTo f s pr pc zs k).getD p 0 ∧ (poolTo f s pr pc zs k).getD p 0 ≤ 4095 := by
  induction k with
  | zero => intro p; unfold poolTo; simp [List.getD_eq_getElem?_getD, List.getElem?_replicate]; split <;> simp
  | succ k ih =>
    intro p
    unfold poolTo
    rw [getM_set]
    split
    · split
      · exact hz k
      · exact hf _ _ (ih _) (hz k)
    · exact ih p
theorem stepAdd (a b : Int) (w : World) (ha : 0 ≤ a ∧ a ≤ 4095) (hb : 0 ≤ b ∧ b ≤ 4095) : Calls Try.prog 25 #[.int .i64 a, .int .i64 b] w fun e w' => e = .returned (.int .i64 (addF a b)) ∧ w = w' := by
  go_enter Try.func25, Try.ntmps25
  go_wp2_with fail
  refine (ringValid_yes _ _ ha.1 ha.2).mono ?_
  rintro e w' ⟨rfl, rfl⟩
  go_wp2_with fail
  refine (ringValid_yes _ _ hb.1 hb.2).mono ?_
  rintro e w' ⟨rfl, rfl⟩
  go_wp2_with fail
  refine (implRing _ _).mono ?_
  rintro e w' ⟨rfl, rfl⟩
  go_wp2
  go_ret
  exact ⟨rfl, rfl⟩
theorem sgM_sgn (x : Int) : sgM x = sgn x := rfl
theorem stepTop (a b : Int) (w : World) (ha : 0 ≤ a ∧ a ≤ 4095) (hb : 0 ≤ b ∧ b ≤ 4095) : Calls Try.prog 70 #[.int .i64 a, .int .i64 b] w fun e w' => e = .returned (.int .i64 (topF a b)) ∧ w = w' := by
  have h1 := implSgn b w hb.1 hb.2
  have h2 := implSgn a w ha.1 ha.2
  have hF : topF a b = if sgn b > sgn a then b else a := rfl
  obtain ⟨x, hx⟩ : ∃ x, sgn a = x := ⟨_, rfl⟩
  obtain ⟨y, hy⟩ : ∃ y, sgn b = y := ⟨_, rfl⟩
  rw [hx] at h2 hF
  rw [hy] at h1 hF
  rw [hF]
  clear hF hx hy
  by_cases h : y > x
  · rw [if_pos h]
    have hd : decide (x < y) = true := by simpa using h
    go_enter Try.func70, Try.ntmps70
    go_wp2_with fail
    refine h1.mono ?_
    rintro e w' ⟨rfl, rfl⟩
    go_wp2_with fail
    refine h2.mono ?_
    rintro e w' ⟨rfl, rfl⟩
    go_wp2
    go_ret
    exact ⟨rfl, rfl⟩
  · rw [if_neg h]
    have hd : decide (x < y) = false := by simpa using h
    go_enter Try.func70, Try.ntmps70
    go_wp2_with fail
    refine h1.mono ?_
    rintro e w' ⟨rfl, rfl⟩
    go_wp2_with fail
    refine h2.mono ?_
    rintro e w' ⟨rfl, rfl⟩
    go_wp2
    go_ret
    exact ⟨rfl, rfl⟩
def OkB (r c : Int) (zs : List Int) (l : Int) : Prop := OkM r c zs ∧ (1 ≤ l ∧ l ≤ 5) ∧ r % l = 0 ∧ c % l = 0
set_option maxHeartbeats 800000 in
theorem poolSum_no (r c l : Int) (A : Option Addr) (cap n B : Nat) (zs : List Int) (w : World) (hs : Sl w B A zs) (hB : B ≤ w.heap.size) (e : n = zs.length) (hn : n ≤ 1100000) (h : ¬ OkB r c zs l) : Calls Try.prog 59 #[matV r c (.slice A n cap), .int .i64 l, .func (.func 25) #[] #[]] w fun e w' => e = .returned (matV 0 0 (.slice none 0 0)) ∧ Below w.heap.size w w' := by
  subst e
  obtain ⟨W, hW⟩ : ∃ W, (w.alloc (.cells #[.int .i64 r, .int .i64 c, .slice A zs.length cap] 26)).alloc (.cells #[.int .i64 0, .int .i64 0, .slice none 0 0] 26) = W := ⟨_, rfl⟩
  obtain ⟨q0, q1, hb, hws⟩ := nest2 w r c (.slice A zs.length cap) W hW.symm
  have HS := Lib.hid (hs.below hb hB)
  have Q0 := Lib.hid q0
  have Q1 := Lib.hid q1
  obtain ⟨a0, a1, a2, f0, f1, f2, alt⟩ := q0
  clear hs q1
  by_cases hm : OkM r c zs
  · have hr1 := hm.1
    have hc1 := hm.2.1
    have HM := Lib.hid hm
    by_cases hl : 1 ≤ l ∧ l ≤ 5
    · have h1 : Int.tmod r l = r % l := Int.tmod_eq_emod_of_nonneg (by omega)
      have h2 : Int.tmod c l = c % l := Int.tmod_eq_emod_of_nonneg (by omega)
      have hh : ¬ Int.tmod r l = 0 ∨ (Int.tmod r l = 0 ∧ ¬ Int.tmod c l = 0) := by
        rw [h1, h2]
        apply Classical.byContradiction
        intro hh
        exact h ⟨hm, hl, by omega, by omega⟩
      have hl0 : ¬ l = 0 := by omega
      obtain ⟨x, hx⟩ : ∃ x, Int.tmod r l = x := ⟨_, rfl⟩
      obtain ⟨y, hy⟩ : ∃ y, Int.tmod c l = y := ⟨_, rfl⟩
      rw [hx, hy] at hh
      clear h hm h1 h2
      go_enter Try.func59, Try.ntmps59
      go_wp2_with fail
      refine (implMV_yes r c A cap _ B zs W HS.out (by omega) rfl (by omega) HM.out).mono ?_
      rintro e w2 ⟨rfl, hb2⟩
      have P1 := Q1.out.below hb2 (by omega)
      have HP1 := Lib.hid P1
      obtain ⟨b0, b1, b2, g0, g1, g2, blt⟩ := P1
      obtain ⟨c0, c1, c2, _, _, _, clt⟩ := Q0.out.below hb2 (by omega)
      have HB := Lib.hid (hb.trans (hb2.mono (by omega)))
      clear hb hb2 a0 a1 a2 f0 f1 f2 alt
      go_wp2_with fail
      refine (sideValid_yes _ _ hl.1 hl.2).mono ?_
      rintro e w' ⟨rfl, rfl⟩
      rcases hh with hh | ⟨hh, hh2⟩
      · have hbx : (x == 0) = false := by simpa using hh
        go_wp2
        have P2 := ((HP1.out.set0 (.int .i64 0)).set1 (.int .i64 0)).set2 (.slice none 0 0)
        have B4 := ((HB.out.setCell (p := ⟨w.heap.size + 1, 0, none⟩) (by simp) (.int .i64 0)).setCell (p := ⟨w.heap.size + 1, 1, none⟩) (by simp) (.int .i64 0)).setCell (p := ⟨w.heap.size + 1, 2, none⟩) (by simp) (.slice none 0 0)
        obtain ⟨W4, hW4⟩ : ∃ W4, (((w2.setCell ⟨w.heap.size + 1, 0, none⟩ (.int .i64 0)).setCell ⟨w.heap.size + 1, 1, none⟩ (.int .i64 0)).setCell ⟨w.heap.size + 1, 2, none⟩ (.slice none 0 0)) = W4 := ⟨_, rfl⟩
        rw [hW4] at P2 B4 ⊢
        obtain ⟨z0, z1, z2, _, _, _, _⟩ := P2
        refine bodyPost_ret (v := matV 0 0 (.slice none 0 0)) (by simp [results, Try.results59, go_sem, z0, z1, z2]) rfl ?_
        exact ⟨rfl, B4⟩
      · have hbx : (x == 0) = true := by simpa using hh
        have hby : (y == 0) = false := by simpa using hh2
        go_wp2
        have P2 := ((HP1.out.set0 (.int .i64 0)).set1 (.int .i64 0)).set2 (.slice none 0 0)
        have B4 := ((HB.out.setCell (p := ⟨w.heap.size + 1, 0, none⟩) (by simp) (.int .i64 0)).setCell (p := ⟨w.heap.size + 1, 1, none⟩) (by simp) (.int .i64 0)).setCell (p := ⟨w.heap.size + 1, 2, none⟩) (by simp) (.slice none 0 0)
        obtain ⟨W4, hW4⟩ : ∃ W4, (((w2.setCell ⟨w.heap.size + 1, 0, none⟩ (.int .i64 0)).setCell ⟨w.heap.size + 1, 1, none⟩ (.int .i64 0)).setCell ⟨w.heap.size + 1, 2, none⟩ (.slice none 0 0)) = W4 := ⟨_, rfl⟩
        rw [hW4] at P2 B4 ⊢
        obtain ⟨z0, z1, z2, _, _, _, _⟩ := P2
        refine bodyPost_ret (v := matV 0 0 (.slice none 0 0)) (by simp [results, Try.results59, go_sem, z0, z1, z2]) rfl ?_
        exact ⟨rfl, B4⟩
    · have hl' : l < 1 ∨ 5 < l := by omega
      clear h hm hl
      go_enter Try.func59, Try.ntmps59
      go_wp2_with fail
      refine (implMV_yes r c A cap _ B zs W HS.out (by omega) rfl (by omega) HM.out).mono ?_
      rintro e w2 ⟨rfl, hb2⟩
      have P1 := Q1.out.below hb2 (by omega)
      have HP1 := Lib.hid P1
      obtain ⟨b0, b1, b2, g0, g1, g2, blt⟩ := P1
      obtain ⟨c0, c1, c2, _, _, _, clt⟩ := Q0.out.below hb2 (by omega)
      have HB := Lib.hid (hb.trans (hb2.mono (by omega)))
      clear hb hb2 a0 a1 a2 f0 f1 f2 alt
      go_wp2_with fail
      refine (sideValid_no _ _ hl').mono ?_
      rintro e w' ⟨rfl, rfl⟩
      go_wp2
      have P2 := ((HP1.out.set0 (.int .i64 0)).set1 (.int .i64 0)).set2 (.slice none 0 0)
      have B4 := ((HB.out.setCell (p := ⟨w.heap.size + 1, 0, none⟩) (by simp) (.int .i64 0)).setCell (p := ⟨w.heap.size + 1, 1, none⟩) (by simp) (.int .i64 0)).setCell (p := ⟨w.heap.size + 1, 2, none⟩) (by simp) (.slice none 0 0)
      obtain ⟨W4, hW4⟩ : ∃ W4, (((w2.setCell ⟨w.heap.size + 1, 0, none⟩ (.int .i64 0)).setCell ⟨w.heap.size + 1, 1, none⟩ (.int .i64 0)).setCell ⟨w.heap.size + 1, 2, none⟩ (.slice none 0 0)) = W4 := ⟨_, rfl⟩
      rw [hW4] at P2 B4 ⊢
      obtain ⟨z0, z1, z2, _, _, _, _⟩ := P2
      refine bodyPost_ret (v := matV 0 0 (.slice none 0 0)) (by simp [results, Try.results59, go_sem, z0, z1, z2]) rfl ?_
      exact ⟨rfl, B4⟩
  · have HM := Lib.hid hm
    clear h hm
    go_enter Try.func59, Try.ntmps59
    go_wp2_with fail
    refine (implMV_no r c A cap _ B zs W HS.out (by omega) rfl (by omega) HM.out).mono ?_
    rintro e w2 ⟨rfl, hb2⟩
    have P1 := Q1.out.below hb2 (by omega)
    have HP1 := Lib.hid P1
    obtain ⟨b0, b1, b2, g0, g1, g2, blt⟩ := P1
    obtain ⟨c0, c1, c2, _, _, _, clt⟩ := Q0.out.below hb2 (by omega)
    have HB := Lib.hid (hb.trans (hb2.mono (by omega)))
    clear hb hb2 a0 a1 a2 f0 f1 f2 alt
    go_wp2
    have P2 := ((HP1.out.set0 (.int .i64 0)).set1 (.int .i64 0)).set2 (.slice none 0 0)
    have B4 := ((HB.out.setCell (p := ⟨w.heap.size + 1, 0, none⟩) (by simp) (.int .i64 0)).setCell (p := ⟨w.heap.size + 1, 1, none⟩) (by simp) (.int .i64 0)).setCell (p := ⟨w.heap.size + 1, 2, none⟩) (by simp) (.slice none 0 0)
    obtain ⟨W4, hW4⟩ : ∃ W4, (((w2.setCell ⟨w.heap.size + 1, 0, none⟩ (.int .i64 0)).setCell ⟨w.heap.size + 1, 1, none⟩ (.int .i64 0)).setCell ⟨w.heap.size + 1, 2, none⟩ (.slice none 0 0)) = W4 := ⟨_, rfl⟩
    rw [hW4] at P2 B4 ⊢
    obtain ⟨z0, z1, z2, _, _, _, _⟩ := P2
    refine bodyPost_ret (v := matV 0 0 (.slice none 0 0)) (by simp [results, Try.results59, go_sem, z0, z1, z2]) rfl ?_
    exact ⟨rfl, B4⟩
set_option maxRecDepth 20000 in
set_option maxHeartbeats 3200000 in
theorem poolSum_yes (s pr pc : Nat) (A : Option Addr) (cap n B : Nat) (zs : List Int) (w : World) (hs : Sl w B A zs) (hB : B ≤ w.heap.size) (e : n = zs.length) (hn : n ≤ 1100000) (hm : OkM ((pr * s : Nat) : Int) ((pc * s : Nat) : Int) zs) (hs1 : 1 ≤ s ∧ s ≤ 5) :
    Calls Try.prog 59 #[matV ((pr * s : Nat) : Int) ((pc * s : Nat) : Int) (.slice A n cap), .int .i64 s, .func (.func 25) #[] #[]] w fun e w' => ∃ sv, e = .returned (matV pr pc sv) ∧ Row w' w.heap.size w'.heap.size sv (poolZ addF s pr pc zs) ∧ Below w.heap.size w w' := by
  have hr1 := hm.1
  have hc1 := hm.2.1
  have hlen : zs.length = pr * s * (pc * s) := by have := hm.2.2.1; exact_mod_cast this
  have hpr : 1 ≤ pr := by rcases Nat.eq_zero_or_pos pr with h | h; subst h; simp at hr1; exact h
  have hpc : 1 ≤ pc := by rcases Nat.eq_zero_or_pos pc with h | h; subst h; simp at hc1; exact h
  have hTS : Hid (∀ k, poolTo addF s pr pc zs (k + 1) = (poolTo addF s pr pc zs k).set (k / (pc * s) / s * pc + k % (pc * s) / s) (if k / (pc * s) % s = 0 ∧ k % (pc * s) % s = 0 then zs.getD k 0 else addF ((poolTo addF s pr pc zs k).getD (k / (pc * s) / s * pc + k % (pc * s) / s) 0) (zs.getD k 0))) := fun k => rfl
  have hTL : Hid (∀ k, (poolTo addF s pr pc zs k).length = pr * pc) := fun k => poolTo_len _ _ _ _ _ k
  have hTF : Hid (poolTo addF s pr pc zs (pr * s * (pc * s)) = poolZ addF s pr pc zs) := poolTo_full _ _ _ _ _ hs1.1 hpc
  have hT0 : Hid (poolTo addF s pr pc zs 0 = List.replicate (pr * pc) 0) := rfl
  have hTR : Hid (∀ k p, 0 ≤ (poolTo addF s pr pc zs k).getD p 0 ∧ (poolTo addF s pr pc zs k).getD p 0 ≤ 4095) := fun k p => poolTo_rng addF (fun a b ha hb => addF_rng ha hb) s pr pc zs (fun p => getD_rng hm.2.2.2 p) k p
  obtain ⟨T, hT⟩ : ∃ T, poolTo addF s pr pc zs = T := ⟨_, rfl⟩
  rw [hT] at hTS hTL hTF hT0 hTR
  clear hT
  have hprs : pr ≤ pr * s := Nat.le_mul_of_pos_right pr hs1.1
  have hpcs : pc ≤ pc * s := Nat.le_mul_of_pos_right pc hs1.1
  have hd1 := tdiv_nat (pr * s) s
  have hd2 := tdiv_nat (pc * s) s
  have hm1 := tmod_nat (pr * s) s
  have hm2 := tmod_nat (pc * s) s
  rw [Nat.mul_div_cancel _ hs1.1] at hd1 hd2
  rw [Nat.mul_mod_left] at hm1 hm2
  have hCL := Lib.hid fun k (hk : k < pr * s * (pc * s)) => (show k / (pc * s) < pr * s ∧ k / (pc * s) / s < pr ∧ k % (pc * s) / s < pc from ⟨(Nat.div_lt_iff_lt_mul (Nat.mul_pos hpc hs1.1)).2 hk, (Nat.div_lt_iff_lt_mul hs1.1).2 ((Nat.div_lt_iff_lt_mul (Nat.mul_pos hpc hs1.1)).2 hk), (Nat.div_lt_iff_lt_mul hs1.1).2 (Nat.mod_lt _ (Nat.mul_pos hpc hs1.1))⟩)
  obtain ⟨r, hr⟩ : ∃ r, pr * s = r := ⟨_, rfl⟩
  obtain ⟨c, hc⟩ : ∃ c, pc * s = c := ⟨_, rfl⟩
  rw [hr] at hm hr1 hlen hTF hprs hd1 hm1 hCL ⊢
  rw [hc] at hm hc1 hlen hTF hTS hpcs hd2 hm2 hCL ⊢
  have hPP : pr * pc ≤ 25 := by have h1 : pr * pc ≤ r * pc := Nat.mul_le_mul_right _ hprs
                                have h2 : r * pc ≤ r * c := Nat.mul_le_mul_left _ hpcs
                                have := hm.len
                                omega
  have hPP1 : 1 ≤ pr * pc := Nat.mul_pos hpr hpc
  have HM := Lib.hid hm
  have HLEN := Lib.hid hlen
  have HRC := Lib.hid (And.intro hr hc)
  clear hm hlen hr hc
  have hwp1 : IntKind.i64.wrap (pr : Int) = (pr : Int) := wrap_in (by omega) (by omega)
  have hwp2 : IntKind.i64.wrap (pc : Int) = (pc : Int) := wrap_in (by omega) (by omega)
  have hsi : (1 : Int) ≤ (s : Int) ∧ (s : Int) ≤ 5 := by omega
  have hs0 : ¬ (s : Int) = 0 := by omega
  have hs0n : ¬ s = 0 := by omega
  have hl25 := HM.out.len
  subst e
  obtain ⟨W, hW⟩ : ∃ W, (w.alloc (.cells #[.int .i64 r, .int .i64 c, .slice A zs.length cap] 26)).alloc (.cells #[.int .i64 0, .int .i64 0, .slice none 0 0] 26) = W := ⟨_, rfl⟩
  obtain ⟨q0, q1, hb, hws⟩ := nest2 w r c (.slice A zs.length cap) W hW.symm
  have HS := Lib.hid (hs.below hb hB)
  have Q0 := Lib.hid q0
  have Q1 := Lib.hid q1
  obtain ⟨a0, a1, a2, f0, f1, f2, alt⟩ := q0
  clear hs q1
  go_enter Try.func59, Try.ntmps59
  go_wp2_with fail
  refine (implMV_yes r c A cap _ B zs W HS.out (by omega) rfl (by omega) HM.out).mono ?_
  rintro e w2 ⟨rfl, hb2⟩
  have hs2 := hb2.size
  have HS2 := Lib.hid (HS.out.below hb2 (by omega))
  have HQ0 := Lib.hid (Q0.out.below hb2 (by omega))
  have HQ1 := Lib.hid (Q1.out.below hb2 (by omega))
  have HB := Lib.hid (hb.trans (hb2.mono (by omega)))
  obtain ⟨c0, c1, c2, _, _, _, clt⟩ := HQ0.out
  clear hb hb2 a0 a1 a2 f0 f1 f2 alt Q0 Q1
  go_wp2_with fail
  refine (sideValid_yes _ _ hsi.1 hsi.2).mono ?_
  rintro e w' ⟨rfl, rfl⟩
  obtain ⟨N, hN⟩ : ∃ N, pr * pc = N := ⟨_, rfl⟩
  have hcallE := Lib.hid fun wx => emptyM_any (pr : Int) (pc : Int) N wx (by rw [← hN]; simp) (by omega)
  rw [hN] at hPP hPP1 hTL hT0
  have HN := Lib.hid hN
  clear hN
  go_upto_region 3 with fail
  go_cut [7] (fun s7 wx => ∃ (b7 : Nat) (A3 : Option Addr) (c3 : Nat), s7 = .pointer (some ⟨b7, 0, none⟩) ∧ w2.heap.size ≤ b7 ∧ b7 < wx.heap.size ∧ Cell3 wx b7 (.int .i64 pr) (.int .i64 pc) (.slice A3 N c3) ∧ Row wx w2.heap.size wx.heap.size (.slice A3 N c3) (List.replicate N 0) ∧ (∀ g, A3 = some ⟨g, 0, none⟩ → g ≠ b7) ∧ Below w2.heap.size w2 wx)
  case first =>
    obtain ⟨l0, l1, _, _, _, _, _⟩ := (HQ0.out.alloc (.cells #[.int .i64 0, .int .i64 0, .slice none 0 0] 26)).grown ((drew1 _).grown none) (by simp)
    go_region_held3 (fun w' => w'.cell? ⟨w.heap.size, 0, none⟩ = some (.int .i64 r) ∧ w'.cell? ⟨w.heap.size, 1, none⟩ = some (.int .i64 c))
      (first | exact ⟨c0, c1⟩ | exact ⟨k0, k1⟩ | exact ⟨m0, m1⟩ | exact ⟨n0, n1⟩ | exact ⟨l0, l1⟩ | exact ⟨r0, r1⟩ | fail)
      (first
        | (go_simp; go_at_call 78; (with_reducible refine (hcallE.out w2.drew).mono ?_); rintro e w3 ⟨sv3, rfl, hr3, hb3⟩; obtain ⟨A3, c3, hsve, hnc3, hcm3, _⟩ := hr3.form; rw [List.length_replicate] at hsve hnc3; subst hsve; have hb4 : Below w2.heap.size w2 w3 := (Below.of_drew w2).trans hb3; have e0 := HQ0.out.below hb4 (show w.heap.size < w2.heap.size by omega); obtain ⟨k0, k1, _, _, _, _, _⟩ := id e0; have en := e0.alloc (.cells #[.int .i64 0, .int .i64 0, .slice none 0 0] 26); obtain ⟨m0, m1, _, _, _, _, _⟩ := id en; have ef := e0.alloc (.cells #[.int .i64 pr, .int .i64 pc, .slice A3 N c3] 26); obtain ⟨n0, n1, _, _, _, _, _⟩ := id ef)
        | (go_simp; go_at_call 78; (with_reducible refine (hcallE.out _).mono ?_); rintro e w3 ⟨sv3, rfl, hr3, hb3⟩; obtain ⟨A3, c3, hsve, hnc3, hcm3, _⟩ := hr3.form; rw [List.length_replicate] at hsve hnc3; subst hsve; have hz0 := (show (w2.alloc (.cells #[.int .i64 0, .int .i64 0, .slice none 0 0] 26)).heap.size = w2.heap.size + 1 by simp); have eB := ((Cell3.new w2 (.int .i64 0) (.int .i64 0) (.slice none 0 0) 26).grown ((drew1 (w2.alloc (.cells #[.int .i64 0, .int .i64 0, .slice none 0 0] 26))).grown none) (by simp)).below hb3 (show w2.heap.size < (w2.alloc (.cells #[.int .i64 0, .int .i64 0, .slice none 0 0] 26)).heap.size by omega); have hb4 : Below w2.heap.size w2 w3 := (((Below.refl w2.heap.size w2).alloc (Nat.le_refl _) (.cells #[.int .i64 0, .int .i64 0, .slice none 0 0] 26)).trans (Below.of_drew _)).trans (hb3.mono (show w2.heap.size ≤ (w2.alloc (.cells #[.int .i64 0, .int .i64 0, .slice none 0 0] 26)).heap.size by omega)); have e0 := HQ0.out.below hb4 (show w.heap.size < w2.heap.size by omega); obtain ⟨k0, k1, _, _, _, _, _⟩ := id e0; have eF := ((eB.set0 (.int .i64 pr)).set1 (.int .i64 pc)).set2 (.slice A3 N c3); obtain ⟨y0, y1, y2, h0, h1, h2, ylt⟩ := id eB; have ef := ((e0.far (a := ⟨w2.heap.size, 0, none⟩) (show w.heap.size ≠ w2.heap.size by omega) (.int .i64 pr)).far (a := ⟨w2.heap.size, 1, none⟩) (show w.heap.size ≠ w2.heap.size by omega) (.int .i64 pc)).far (a := ⟨w2.heap.size, 2, none⟩) (show w.heap.size ≠ w2.heap.size by omega) (.slice A3 N c3); obtain ⟨r0, r1, _, _, _, _, _⟩ := id ef)
        | fail)
    all_goals (
      go_wp2_with fail
      go_meet
      first
        | exact ⟨w3.heap.size, A3, c3, rfl, hb4.size, by simp, Cell3.new w3 _ _ _ _, ((show Row w3 w2.heap.size w3.heap.size _ _ from hr3).grown (World.grownBy_alloc w3 _ none) (fun g e => by cases e)).wider (Nat.le_refl _) (by simp), fun g hg => by have := (hr3.block_lt g (by rw [hg]; rfl)).2; omega, hb4.alloc hb4.size _⟩
        | exact ⟨w2.heap.size, A3, c3, rfl, Nat.le_refl _, by have := eB.lt; simp; omega, eF, by
            have hlo : w2.heap.size + 1 = (w2.alloc (.cells #[.int .i64 0, .int .i64 0, .slice none 0 0] 26)).heap.size := by simp
            have q1 := hr3.grown (set_grown w3 w2.heap.size 0 (.int .i64 pr)) (fun g e => by cases e; left; show w2.heap.size < (w2.alloc (.cells #[.int .i64 0, .int .i64 0, .slice none 0 0] 26)).heap.size; omega)
            have q2 := q1.grown (set_grown _ w2.heap.size 1 (.int .i64 pc)) (fun g e => by cases e; left; show w2.heap.size < (w2.alloc (.cells #[.int .i64 0, .int .i64 0, .slice none 0 0] 26)).heap.size; omega)
            have q3 := q2.grown (set_grown _ w2.heap.size 2 (.slice A3 N c3)) (fun g e => by cases e; left; show w2.heap.size < (w2.alloc (.cells #[.int .i64 0, .int .i64 0, .slice none 0 0] 26)).heap.size; omega)
            exact q3.wider (show w2.heap.size ≤ (w2.alloc (.cells #[.int .i64 0, .int .i64 0, .slice none 0 0] 26)).heap.size by omega) (by simp), fun g hg => by
            have := (hr3.block_lt g (by rw [hg]; rfl)).1
            have : (w2.alloc (.cells #[.int .i64 0, .int .i64 0, .slice none 0 0] 26)).heap.size ≤ g := this
            omega, ((hb4.setCell (p := ⟨w2.heap.size, 0, none⟩) (Nat.le_refl _) _).setCell (p := ⟨w2.heap.size, 1, none⟩) (Nat.le_refl _) _).setCell (p := ⟨w2.heap.size, 2, none⟩) (Nat.le_refl _) _⟩)
  case rest =>
    obtain ⟨V, rfl⟩ : ∃ V, V = wc := ⟨_, rfl⟩
    obtain ⟨b7, A3, c3, rfl, hb7, hb7', k5, hr3, hne3, hb3⟩ := hcut
    clear c0 c1 c2 clt hcallE
    have hs3 := hb3.size
    have HV0 := Lib.hid (HQ0.out.below hb3 (by omega))
    have HV1 := Lib.hid (HQ1.out.below hb3 (by omega))
    have HBV := Lib.hid (HB.out.trans (hb3.mono (by omega)))
    have HRV := Lib.hid hr3
    have HSV := Lib.hid (HS2.out.below hb3 (by omega))
    have K5 := Lib.hid k5
    have HNE := Lib.hid hne3
    clear hr3 hb3 HQ0 HQ1 HB HS2 k5 hne3
    obtain ⟨c0, c1, c2, _, _, _, clt⟩ := HV0.out
    go_wp2
    clear c0 c1 c2
    have hws' : w.heap.size + 2 ≤ w2.heap.size := by omega
    go_loopw [48] (fun i wr => ∃ k : Nat, k ≤ zs.length ∧ i = .int .i64 k ∧ Row wr w2.heap.size V.heap.size (.slice A3 N c3) (T k) ∧ Below w.heap.size w wr ∧ Cell3 wr b7 (.int .i64 pr) (.int .i64 pc) (.slice A3 N c3) ∧ Cell3 wr (w.heap.size + 1) (.int .i64 0) (.int .i64 0) (.slice none 0 0) ∧ Cell3 wr w.heap.size (.int .i64 r) (.int .i64 c) (.slice A zs.length cap) ∧ Sl wr B A zs ∧ V.heap.size ≤ wr.heap.size) (fun i _ => zs.length - (intOf i).toNat)
    case atStart => exact ⟨0, Nat.zero_le _, rfl, by rw [hT0.out]; exact HRV.out, HBV.out, K5.out, HV1.out, HV0.out, HSV.out, Nat.le_refl _⟩
    case round =>
      obtain ⟨k, hk, rfl, hrow, hbel, hc5c, hc1c, hc0c, hsl, hsz⟩ := hrel
      by_cases hlt : k < zs.length
      · obtain ⟨hl1, hl2, hl3⟩ := hCL.out k (by rw [← HLEN.out]; exact hlt)
        have hTk := hTS.out k
        have hTr := hTR.out k
        have hTl := hTL.out k
        have hdv := tdiv_nat k c
        have hmd := tmod_nat k c
        have hcolc : k % c < c := Nat.mod_lt _ (by omega)
        obtain ⟨row, hrow'⟩ : ∃ row, k / c = row := ⟨_, rfl⟩
        obtain ⟨col, hcol'⟩ : ∃ col, k % c = col := ⟨_, rfl⟩
        rw [hrow'] at hl1 hl2 hTk hdv
        rw [hcol'] at hl3 hTk hmd hcolc
        have hrml : row % s < s := Nat.mod_lt _ hs1.1
        have hcml : col % s < s := Nat.mod_lt _ hs1.1
        have hdr := tdiv_nat row s
        have hdc := tdiv_nat col s
        have hmr := tmod_nat row s
        have hmc := tmod_nat col s
        obtain ⟨br, hbr⟩ : ∃ br, row / s = br := ⟨_, rfl⟩
        obtain ⟨bc, hbc⟩ : ∃ bc, col / s = bc := ⟨_, rfl⟩
        obtain ⟨rm, hrm⟩ : ∃ rm, row % s = rm := ⟨_, rfl⟩
        obtain ⟨cm, hcm'⟩ : ∃ cm, col % s = cm := ⟨_, rfl⟩
        rw [hbr] at hl2 hTk hdr
        rw [hbc] at hl3 hTk hdc
        rw [hrm] at hTk hmr hrml
        rw [hcm'] at hTk hmc hcml
        have hbl := ix_lt hl2 hl3
        rw [HN.out] at hbl
        have hbpi : (br : Int) * (pc : Int) = ((br * pc : Nat) : Int) := by simp
        obtain ⟨bp, hbp⟩ : ∃ bp, br * pc = bp := ⟨_, rfl⟩
        rw [hbp] at hbpi hbl hTk
        obtain ⟨bl, hble⟩ : ∃ bl, bp + bc = bl := ⟨_, rfl⟩
        rw [hble] at hbl hTk
        have hwb1 : IntKind.i64.wrap (bp : Int) = (bp : Int) := wrap_in (by omega) (by omega)
        have hwb2 : IntKind.i64.wrap ((bp : Int) + (bc : Int)) = (bl : Int) := by rw [wrap_in (by omega) (by omega)]; omega
        have hwr : IntKind.i64.wrap (row : Int) = (row : Int) := wrap_in (by omega) (by omega)
        have hwc : IntKind.i64.wrap (col : Int) = (col : Int) := wrap_in (by omega) (by omega)
        have hwbr : IntKind.i64.wrap (br : Int) = (br : Int) := wrap_in (by omega) (by omega)
        have hwbc : IntKind.i64.wrap (bc : Int) = (bc : Int) := wrap_in (by omega) (by omega)
        have hci0 : ¬ c = 0 := by omega
        obtain ⟨g, hg, hg1, hg2, hcg, hfz⟩ := hrow.cell_ (j := bl) (by rw [hTl]; exact hbl)
        subst hg
        have hgb : g ≠ b7 := HNE.out g rfl
        obtain ⟨b, off, hA, hbB, hcz⟩ := hsl.at_ hlt
        subst hA
        have hzr := HM.out.2.2.2 k hlt
        have hyr := hTr bl
        obtain ⟨x, hx⟩ : ∃ x, zs.getD k 0 = x := ⟨_, rfl⟩
        obtain ⟨y, hy⟩ : ∃ y, (T k).getD bl 0 = y := ⟨_, rfl⟩
        rw [hx] at hcz hzr hTk
        rw [hy] at hcg hyr hTk
        have HTk := Lib.hid hTk
        have hbli : (bl : Int) < (N : Int) := by omega
        have hki : (k : Int) < (zs.length : Int) := by omega
        clear hTk hTr hTl hrow' hcol' hbr hbc hrm hcm' hbp hble hx hy
        have HROW := Lib.hid hrow
        have HSL := Lib.hid hsl
        have HBL := Lib.hid hbel
        have H5 := Lib.hid hc5c
        have H1 := Lib.hid hc1c
        have H0 := Lib.hid hc0c
        obtain ⟨v0, v1, v2, _, _, _, vlt⟩ := hc5c
        obtain ⟨c0, c1, c2, _, _, _, clt⟩ := hc0c
        clear hrow hsl hbel hc1c
        go_upto_region 7 with fail
        go_cut [10, 11] (fun s10 s11 wx => s10 = .int .i64 (row : Int) ∧ s11 = .int .i64 (col : Int) ∧ Drew wr wx)
        case first =>
          go_quiet (fail)
          go_wp2_with fail
          go_meet
          exact ⟨rfl, rfl, ⟨_, rfl⟩⟩
        case rest =>
          obtain ⟨rfl, rfl, hD7⟩ := hcut
          obtain ⟨w7, rfl⟩ : ∃ w7, w7 = wc := ⟨_, rfl⟩
          obtain ⟨_, hv1, _, _, _, _, _⟩ := H5.out.grown (hD7.grown none) (by simp)
          go_upto_region 8 with fail
          go_cut [12] (fun s12 wx => s12 = .int .i64 (bl : Int) ∧ Drew wr wx)
          case first =>
            go_quiet (fail)
            go_wp2_with fail
            go_meet
            exact ⟨rfl, hD7.trans ⟨_, rfl⟩⟩
          case rest =>
            obtain ⟨rfl, hD8⟩ := hcut
            obtain ⟨w8, rfl⟩ : ∃ w8, w8 = wc := ⟨_, rfl⟩
            clear v0 v1 v2 vlt c0 c1 c2 clt hv1 hD7 hdv hmd hdr hdc hbpi
            have hfz' := (World.frozen?_of_block (a := ⟨g, bl, none⟩) ((hD8.grown none).block g (show g < wr.heap.size by omega) (by simp))).trans hfz
            have hcg' := (hD8.grown none).cell hcg (by simp)
            have HROW := Lib.hid (hD8.row HROW.out)
            have HSL := Lib.hid (hD8.sl HSL.out)
            have HBL := Lib.hid (HBL.out.trans (hD8.below _))
            have H5 := Lib.hid (H5.out.grown (hD8.grown none) (by simp))
            have H1 := Lib.hid (H1.out.grown (hD8.grown none) (by simp))
            have H0 := Lib.hid (H0.out.grown (hD8.grown none) (by simp))
            have hsz8 : V.heap.size ≤ w8.heap.size := by rw [hD8.size]; exact hsz
            clear hD8 hcg hfz
            obtain ⟨v0, v1, v2, f0, f1, f2, vlt⟩ := H5.out
            by_cases hz : rm = 0 ∧ cm = 0
            · rw [if_pos hz] at HTk
              obtain ⟨rfl, rfl⟩ := hz
              have S := Lib.hid (HROW.out.stored bl x)
              go_wp2
              go_roundw
              case rel => exact ⟨k + 1, by omega, by go_num, by rw [HTk.out]; exact S.out.1, HBL.out.setCell (p := ⟨g, bl, none⟩) (show w.heap.size ≤ g by omega) _, H5.out.far (a := ⟨g, bl, none⟩) (show b7 ≠ g from fun h => hgb h.symm) _, H1.out.far (a := ⟨g, bl, none⟩) (show w.heap.size + 1 ≠ g by omega) _, H0.out.far (a := ⟨g, bl, none⟩) (show w.heap.size ≠ g by omega) _, HSL.out.keep (fun p hp => World.cell?_setCell_other _ _ _ _ (fun e => by rw [← e] at hp; exact absurd (show g < B from hp) (by omega))), by simpa using hsz8⟩
              case measure => simp [intOf]; omega
            · rw [if_neg hz] at HTk
              have hcall := Lib.hid fun wx => stepAdd y x wx hyr hzr
              obtain ⟨z, hze⟩ : ∃ z, addF y x = z := ⟨_, rfl⟩
              rw [hze] at HTk hcall
              clear hze
              have hDw : Drew w8 w8.drew := ⟨1, rfl⟩
              have S := Lib.hid ((hDw.row HROW.out).stored bl z)
              have hDw := Lib.hid hDw
              have hz' : ¬ rm = 0 ∨ (rm = 0 ∧ ¬ cm = 0) := by omega
              have hvv2 : w8.drew.cell? ⟨b7, 2, none⟩ = some (.slice (some ⟨g, 0, none⟩) N c3) := v2
              have hcgd : w8.drew.cell? ⟨g, bl, none⟩ = some (.int .i64 y) := hcg'
              have hfzd : w8.drew.frozen? ⟨g, bl, none⟩ = false := hfz'
              clear hz
              rcases hz' with hz | ⟨rfl, hz⟩
              all_goals (
                go_upto_region 11 with fail
                go_region_law (go_simp; go_at_call 25; refine (hcall.out _).mono ?_; rintro e w' ⟨rfl, rfl⟩)
                all_goals (
                  go_wp2
                  go_roundw
                  case rel => exact ⟨k + 1, by omega, by go_num, by rw [HTk.out]; exact S.out.1, (HBL.out.trans (Below.of_drew w8)).setCell (p := ⟨g, bl, none⟩) (show w.heap.size ≤ g by omega) _, (H5.out.grown (hDw.out.grown none) (by simp)).far (a := ⟨g, bl, none⟩) (show b7 ≠ g from fun h => hgb h.symm) _, (H1.out.grown (hDw.out.grown none) (by simp)).far (a := ⟨g, bl, none⟩) (show w.heap.size + 1 ≠ g by omega) _, (H0.out.grown (hDw.out.grown none) (by simp)).far (a := ⟨g, bl, none⟩) (show w.heap.size ≠ g by omega) _, (hDw.out.sl HSL.out).keep (fun p hp => World.cell?_setCell_other _ _ _ _ (fun e => by rw [← e] at hp; exact absurd (show g < B from hp) (by omega))), by simpa using hsz8⟩
                  case measure => simp [intOf]; omega))
      · have e : k = zs.length := by omega
        rw [e, HLEN.out, hTF.out] at hrow
        have hE := Lib.hid e
        have HR := Lib.hid hrow
        have HB5 := Lib.hid hbel
        have HC1 := Lib.hid hc1c
        obtain ⟨v0, v1, v2, p0, p1, p2, vlt⟩ := hc5c
        obtain ⟨b0, b1, b2, g0, g1, g2, blt⟩ := hc1c
        clear hrow hbel e
        go_wp2
        have P2 := ((HC1.out.set0 (.int .i64 pr)).set1 (.int .i64 pc)).set2 (.slice A3 N c3)
        have R2 := HR.out.grown (set_grown _ (w.heap.size + 1) 0 (.int .i64 pr)) (fun g e => by cases e; left; omega)
        have R3 := R2.grown (set_grown _ (w.heap.size + 1) 1 (.int .i64 pc)) (fun g e => by cases e; left; omega)
        have R4 := R3.grown (set_grown _ (w.heap.size + 1) 2 (.slice A3 N c3)) (fun g e => by cases e; left; omega)
        have B4 := ((HB5.out.setCell (p := ⟨w.heap.size + 1, 0, none⟩) (by simp) (.int .i64 pr)).setCell (p := ⟨w.heap.size + 1, 1, none⟩) (by simp) (.int .i64 pc)).setCell (p := ⟨w.heap.size + 1, 2, none⟩) (by simp) (.slice A3 N c3)
        have S4 : ((((wr.setCell ⟨w.heap.size + 1, 0, none⟩ (.int .i64 pr)).setCell ⟨w.heap.size + 1, 1, none⟩ (.int .i64 pc)).setCell ⟨w.heap.size + 1, 2, none⟩ (.slice A3 N c3)).heap.size) = wr.heap.size := by simp
        obtain ⟨W4, hW4⟩ : ∃ W4, (((wr.setCell ⟨w.heap.size + 1, 0, none⟩ (.int .i64 pr)).setCell ⟨w.heap.size + 1, 1, none⟩ (.int .i64 pc)).setCell ⟨w.heap.size + 1, 2, none⟩ (.slice A3 N c3)) = W4 := ⟨_, rfl⟩
        rw [hW4] at P2 R4 B4 S4 ⊢
        obtain ⟨z0, z1, z2, _, _, _, _⟩ := P2
        refine bodyPost_ret (v := matV pr pc (.slice A3 N c3)) (by simp [results, Try.results59, go_sem, z0, z1, z2]) rfl ?_
        exact ⟨_, rfl, R4.wider (by omega) (by omega), B4⟩

end Go.Proofs.Ytakjmdjjpalaiaa
