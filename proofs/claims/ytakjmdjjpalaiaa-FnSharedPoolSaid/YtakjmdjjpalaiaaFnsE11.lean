/- Contracts: pools, the reference's: Sum. (Printed by gen_E11.py.) -/
import Derived.Test.YtakjmdjjpalaiaaFnsE10
import Derived.Test.YtakjmdjjpalaiaaFnsE7
namespace Go.Proofs.Ytakjmdjjpalaiaa
open Go.RowKit


section
variable (r c l : Int) (A : Option Addr) (cap n B : Nat) (zs : List Int) (w : World) (hs : Sl w B A zs) (hB : B ≤ w.heap.size) (e : n = zs.length) (hn : n ≤ 1100000)
include hs hB e hn
set_option maxHeartbeats 800000 in
theorem specSum_no (h : ¬ OkB r c zs l) : Calls Try.prog 16 #[matV r c (.slice A n cap), .int .i64 l] w fun e w' => e = .returned (matV 0 0 (.slice none 0 0)) ∧ Below w.heap.size w w' := by
  subst e
  obtain ⟨W, hW⟩ : ∃ W, (w.alloc (.cells #[.int .i64 r, .int .i64 c, .slice A zs.length cap] 26)).alloc (.cells #[.int .i64 0, .int .i64 0, .slice none 0 0] 26) = W := ⟨_, rfl⟩
  obtain ⟨q0, q1, hb, hws⟩ := nest2 w r c (.slice A zs.length cap) W hW.symm
  have HS := Lib.hid (hs.below hb hB)
  have Q0 := Lib.hid q0
  have Q1 := Lib.hid q1
  obtain ⟨a0, a1, a2, f0, f1, f2, alt⟩ := q0
  clear hs q1
  go_enter Try.func16, Try.ntmps16
  go_wp2_with fail
  refine (ownM_any r c A cap _ B zs W HS.out (by omega) rfl hn).mono ?_
  rintro e w2 ⟨s2, rfl, hr2, hb2⟩
  obtain ⟨A2, c2, rfl, hnc2, hcm2, hs2⟩ := hr2.form
  have k0 := Q0.out.below hb2 (by omega)
  have k1 := Q1.out.below hb2 (by omega)
  have K0 := Lib.hid (((k0.set0 (.int .i64 r)).set1 (.int .i64 c)).set2 (.slice A2 zs.length c2))
  have K1 := Lib.hid (((k1.far (a := ⟨w.heap.size, 0, none⟩) (by simp) (.int .i64 r)).far (a := ⟨w.heap.size, 1, none⟩) (by simp) (.int .i64 c)).far (a := ⟨w.heap.size, 2, none⟩) (by simp) (.slice A2 zs.length c2))
  have hz2 := hb2.size
  obtain ⟨c0, c1, c2', d0, d1, d2, clt⟩ := k0
  clear a0 a1 a2 f0 f1 f2 alt Q0 Q1 k1
  go_wp2_with fail
  have R1 := hr2.grown (set_grown _ w.heap.size 0 (.int .i64 r)) (fun g e => by cases e; left; omega)
  have R2 := R1.grown (set_grown _ w.heap.size 1 (.int .i64 c)) (fun g e => by cases e; left; omega)
  have R3 := R2.grown (set_grown _ w.heap.size 2 (.slice A2 zs.length c2)) (fun g e => by cases e; left; omega)
  have B3 := (((hb.trans (hb2.mono (show w.heap.size ≤ W.heap.size by omega))).setCell (p := ⟨w.heap.size, 0, none⟩) (Nat.le_refl _) (.int .i64 r)).setCell (p := ⟨w.heap.size, 1, none⟩) (Nat.le_refl _) (.int .i64 c)).setCell (p := ⟨w.heap.size, 2, none⟩) (Nat.le_refl _) (.slice A2 zs.length c2)
  have S3 : ((((w2.setCell ⟨w.heap.size, 0, none⟩ (.int .i64 r)).setCell ⟨w.heap.size, 1, none⟩ (.int .i64 c)).setCell ⟨w.heap.size, 2, none⟩ (.slice A2 zs.length c2)).heap.size) = w2.heap.size := by simp
  obtain ⟨U, hU⟩ : ∃ U, (((w2.setCell ⟨w.heap.size, 0, none⟩ (.int .i64 r)).setCell ⟨w.heap.size, 1, none⟩ (.int .i64 c)).setCell ⟨w.heap.size, 2, none⟩ (.slice A2 zs.length c2)) = U := ⟨_, rfl⟩
  rw [hU] at K0 K1 R3 B3 S3 ⊢
  have HSU := Lib.hid (R3.sl_now.more (Nat.le_of_eq S3.symm))
  have HBU := Lib.hid B3
  clear R1 R2 R3 B3 hb2 hr2 hs2 c0 c1 c2' d0 d1 d2 clt hb
  refine (fits_any r c l A2 c2 _ _ zs U HSU.out (Nat.le_refl _) rfl (by omega) false ⟨fun e => by simp at e, fun e => absurd e h⟩).mono ?_
  rintro e w3 ⟨rfl, hb3⟩
  have P1 := K1.out.below hb3 (by omega)
  have HP1 := Lib.hid P1
  obtain ⟨b0, b1, b2, g0, g1, g2, blt⟩ := P1
  have HB := Lib.hid (HBU.out.trans (hb3.mono (by omega)))
  clear hb3
  go_wp2
  have P2 := ((HP1.out.set0 (.int .i64 0)).set1 (.int .i64 0)).set2 (.slice none 0 0)
  have B4 := ((HB.out.setCell (p := ⟨w.heap.size + 1, 0, none⟩) (by simp) (.int .i64 0)).setCell (p := ⟨w.heap.size + 1, 1, none⟩) (by simp) (.int .i64 0)).setCell (p := ⟨w.heap.size + 1, 2, none⟩) (by simp) (.slice none 0 0)
  obtain ⟨W4, hW4⟩ : ∃ W4, (((w3.setCell ⟨w.heap.size + 1, 0, none⟩ (.int .i64 0)).setCell ⟨w.heap.size + 1, 1, none⟩ (.int .i64 0)).setCell ⟨w.heap.size + 1, 2, none⟩ (.slice none 0 0)) = W4 := ⟨_, rfl⟩
  rw [hW4] at P2 B4 ⊢
  obtain ⟨z0, z1, z2, _, _, _, _⟩ := P2
  refine bodyPost_ret (v := matV 0 0 (.slice none 0 0)) (by simp [results, Try.results16, go_sem, z0, z1, z2]) rfl ?_
  exact ⟨rfl, B4⟩
end
set_option maxRecDepth 20000 in
set_option maxHeartbeats 3200000 in
theorem specSum_yes (s pr pc : Nat) (A : Option Addr) (cap n B : Nat) (zs : List Int) (w : World) (hs : Sl w B A zs) (hB : B ≤ w.heap.size) (e : n = zs.length) (hn : n ≤ 1100000) (hm : OkM ((pr * s : Nat) : Int) ((pc * s : Nat) : Int) zs) (hs1 : 1 ≤ s ∧ s ≤ 5) :
    Calls Try.prog 16 #[matV ((pr * s : Nat) : Int) ((pc * s : Nat) : Int) (.slice A n cap), .int .i64 s] w fun e w' => ∃ sv, e = .returned (matV pr pc sv) ∧ Row w' w.heap.size w'.heap.size sv (poolZ addF s pr pc zs) ∧ Below w.heap.size w w' := by
  have hr1 := hm.1
  have hc1 := hm.2.1
  have hlen : zs.length = pr * s * (pc * s) := by have := hm.2.2.1; exact_mod_cast this
  have hpr : 1 ≤ pr := by rcases Nat.eq_zero_or_pos pr with h | h; subst h; simp at hr1; exact h
  have hpc : 1 ≤ pc := by rcases Nat.eq_zero_or_pos pc with h | h; subst h; simp at hc1; exact h
  have hprs : pr ≤ pr * s := Nat.le_mul_of_pos_right pr hs1.1
  have hpcs : pc ≤ pc * s := Nat.le_mul_of_pos_right pc hs1.1
  have hok : OkB ((pr * s : Nat) : Int) ((pc * s : Nat) : Int) zs s := ⟨hm, by omega, by simp, by simp⟩
  have HZ := Lib.hid fun p => getD_rng hm.2.2.2 p
  have hd1 := tdiv_nat (pr * s) s
  have hd2 := tdiv_nat (pc * s) s
  rw [Nat.mul_div_cancel _ hs1.1] at hd1 hd2
  have hPS := Lib.hid fun a (ha : a < pr) => blk_le (s := s) ha
  have hCS := Lib.hid fun b (hb : b < pc) => blk_le (s := s) hb
  have hFull : Hid (tabTo pc (fun a b => bfold addF (bval s (pc * s) zs a b) (s * s)) (pr * pc) = poolZ addF s pr pc zs) := rfl
  have hTS : Hid (∀ k, tabTo pc (fun a b => bfold addF (bval s (pc * s) zs a b) (s * s)) (k + 1) = tabTo pc (fun a b => bfold addF (bval s (pc * s) zs a b) (s * s)) k ++ [bfold addF (bval s (pc * s) zs (k / pc) (k % pc)) (s * s)]) := fun k => tabTo_succ _ _ k
  have hTL : Hid (∀ k, (tabTo pc (fun a b => bfold addF (bval s (pc * s) zs a b) (s * s)) k).length = k) := fun k => tabTo_len _ _ k
  obtain ⟨T, hT⟩ : ∃ T, tabTo pc (fun a b => bfold addF (bval s (pc * s) zs a b) (s * s)) = T := ⟨_, rfl⟩
  have hT0 : T 0 = [] := by rw [← hT]; rfl
  rw [hT] at hFull hTS hTL
  clear hT
  obtain ⟨r, hr⟩ : ∃ r, pr * s = r := ⟨_, rfl⟩
  obtain ⟨c, hc⟩ : ∃ c, pc * s = c := ⟨_, rfl⟩
  rw [hr] at hm hr1 hlen hprs hok hd1 hPS ⊢
  rw [hc] at hm hc1 hlen hpcs hok hTS hd2 hCS ⊢
  have hPP : pr * pc ≤ 25 := by have h1 : pr * pc ≤ r * pc := Nat.mul_le_mul_right _ hprs
                                have h2 : r * pc ≤ r * c := Nat.mul_le_mul_left _ hpcs
                                have := hm.len
                                omega
  have hPP1 : 1 ≤ pr * pc := Nat.mul_pos hpr hpc
  have hri : (pr : Int) * (pc : Int) = ((pr * pc : Nat) : Int) := by simp
  obtain ⟨N, hN⟩ : ∃ N, pr * pc = N := ⟨_, rfl⟩
  rw [hN] at hri hPP hPP1 hFull
  have HN := Lib.hid hN
  have HM := Lib.hid hm
  have HLEN := Lib.hid hlen
  have HOK := Lib.hid hok
  have HT0 := Lib.hid hT0
  clear hN hm hlen hok hT0 hr hc
  have hsi : (1 : Int) ≤ (s : Int) ∧ (s : Int) ≤ 5 := by omega
  have hs0 : ¬ (s : Int) = 0 := by omega
  have hs0n : ¬ s = 0 := by omega
  have hpc0 : ¬ pc = 0 := by omega
  have hwp1 : IntKind.i64.wrap (pr : Int) = (pr : Int) := wrap_in (by omega) (by omega)
  have hwp2 : IntKind.i64.wrap (pc : Int) = (pc : Int) := wrap_in (by omega) (by omega)
  subst e
  obtain ⟨W, hW⟩ : ∃ W, (w.alloc (.cells #[.int .i64 r, .int .i64 c, .slice A zs.length cap] 26)).alloc (.cells #[.int .i64 0, .int .i64 0, .slice none 0 0] 26) = W := ⟨_, rfl⟩
  obtain ⟨q0, q1, hb, hws⟩ := nest2 w r c (.slice A zs.length cap) W hW.symm
  have HS := Lib.hid (hs.below hb hB)
  have Q0 := Lib.hid q0
  have Q1 := Lib.hid q1
  obtain ⟨a0, a1, a2, f0, f1, f2, alt⟩ := q0
  clear hs q1
  go_enter Try.func16, Try.ntmps16
  go_wp2_with fail
  refine (ownM_any r c A cap _ B zs W HS.out (by omega) rfl hn).mono ?_
  rintro e w2 ⟨s2, rfl, hr2, hb2⟩
  obtain ⟨A2, c2, rfl, hnc2, hcm2, hs2⟩ := hr2.form
  have k0 := Q0.out.below hb2 (by omega)
  have k1 := Q1.out.below hb2 (by omega)
  have K0 := Lib.hid (((k0.set0 (.int .i64 r)).set1 (.int .i64 c)).set2 (.slice A2 zs.length c2))
  have K1 := Lib.hid (((k1.far (a := ⟨w.heap.size, 0, none⟩) (by simp) (.int .i64 r)).far (a := ⟨w.heap.size, 1, none⟩) (by simp) (.int .i64 c)).far (a := ⟨w.heap.size, 2, none⟩) (by simp) (.slice A2 zs.length c2))
  have hz2 := hb2.size
  obtain ⟨c0, c1, c2', d0, d1, d2, clt⟩ := k0
  clear a0 a1 a2 f0 f1 f2 alt Q0 Q1 k1
  go_wp2_with fail
  have R1 := hr2.grown (set_grown _ w.heap.size 0 (.int .i64 r)) (fun g e => by cases e; left; omega)
  have R2 := R1.grown (set_grown _ w.heap.size 1 (.int .i64 c)) (fun g e => by cases e; left; omega)
  have R3 := R2.grown (set_grown _ w.heap.size 2 (.slice A2 zs.length c2)) (fun g e => by cases e; left; omega)
  have B3 := (((hb.trans (hb2.mono (show w.heap.size ≤ W.heap.size by omega))).setCell (p := ⟨w.heap.size, 0, none⟩) (Nat.le_refl _) (.int .i64 r)).setCell (p := ⟨w.heap.size, 1, none⟩) (Nat.le_refl _) (.int .i64 c)).setCell (p := ⟨w.heap.size, 2, none⟩) (Nat.le_refl _) (.slice A2 zs.length c2)
  have S3 : ((((w2.setCell ⟨w.heap.size, 0, none⟩ (.int .i64 r)).setCell ⟨w.heap.size, 1, none⟩ (.int .i64 c)).setCell ⟨w.heap.size, 2, none⟩ (.slice A2 zs.length c2)).heap.size) = w2.heap.size := by simp
  obtain ⟨U, hU⟩ : ∃ U, (((w2.setCell ⟨w.heap.size, 0, none⟩ (.int .i64 r)).setCell ⟨w.heap.size, 1, none⟩ (.int .i64 c)).setCell ⟨w.heap.size, 2, none⟩ (.slice A2 zs.length c2)) = U := ⟨_, rfl⟩
  rw [hU] at K0 K1 R3 B3 S3 ⊢
  have HSU := Lib.hid (R3.sl_now.more (Nat.le_of_eq S3.symm))
  have HBU := Lib.hid B3
  clear R1 R2 R3 B3 hb2 hr2 hs2 c0 c1 c2' d0 d1 d2 clt hb
  refine (fits_any r c s A2 c2 _ _ zs U HSU.out (Nat.le_refl _) rfl (by omega) true ⟨fun _ => HOK.out, fun _ => rfl⟩).mono ?_
  rintro e w3 ⟨rfl, hb3⟩
  have hs3 := hb3.size
  have HK0 := Lib.hid (K0.out.below hb3 (by omega))
  have HK1 := Lib.hid (K1.out.below hb3 (by omega))
  have HSV := Lib.hid (HSU.out.below hb3 (Nat.le_refl _))
  have HBV := Lib.hid (HBU.out.trans (hb3.mono (by omega)))
  clear hb3
  obtain ⟨c0, c1, c2', _, _, _, clt⟩ := HK0.out
  go_upto_region 4 with fail
  go_cut [5] (fun s5 wx => s5 = .pointer (some ⟨w3.heap.size, 0, none⟩) ∧ w3.heap.size < wx.heap.size ∧ Cell3 wx w3.heap.size (.int .i64 pr) (.int .i64 pc) (.slice none 0 0) ∧ Below w3.heap.size w3 wx)
  case first =>
    obtain ⟨l0, l1, _, _, _, _, _⟩ := (HK0.out.alloc (.cells #[.int .i64 0, .int .i64 0, .slice none 0 0] 26)).grown ((drew1 _).grown none) (by simp)
    obtain ⟨m0, m1, _, _, _, _, _⟩ := (HK0.out.alloc (.cells #[.int .i64 pr, .int .i64 pc, .slice none 0 0] 26)).grown ((drew1 _).grown none) (by simp)
    go_region_held3 (fun w' => w'.cell? ⟨w.heap.size, 0, none⟩ = some (.int .i64 r) ∧ w'.cell? ⟨w.heap.size, 1, none⟩ = some (.int .i64 c))
      (first | exact ⟨c0, c1⟩ | exact ⟨l0, l1⟩ | exact ⟨m0, m1⟩ | fail) (fail)
    all_goals (
      go_wp2_with fail
      go_meet
      exact ⟨rfl, by simp, (Cell3.new w3 (.int .i64 pr) (.int .i64 pc) (.slice none 0 0) 26).grown ((drew1 _).grown none) (by simp), ((Below.refl _ _).alloc (Nat.le_refl _) _).trans (Below.of_drew _)⟩)
  case rest =>
    obtain ⟨V, rfl⟩ : ∃ V, V = wc := ⟨_, rfl⟩
    obtain ⟨rfl, hsv, k5, hbv⟩ := hcut
    have K5' := Lib.hid k5
    have K0' := Lib.hid (HK0.out.below hbv (by omega))
    have K1' := Lib.hid (HK1.out.below hbv (by omega))
    have HSV2 := Lib.hid (HSV.out.below hbv (by omega))
    have HBV2 := Lib.hid (HBV.out.trans (hbv.mono (by omega)))
    clear c0 c1 c2' clt k5 hbv HK0 HK1 HSV HBV
    go_wp2
    have hord : w.heap.size + 2 ≤ U.heap.size := by omega
    go_loopw [6] (fun i wr => ∃ (k : Nat) (sv : Value), k ≤ N ∧ i = .int .i64 k ∧ Cell3 wr w3.heap.size (.int .i64 pr) (.int .i64 pc) sv ∧ Row wr V.heap.size wr.heap.size sv (T k) ∧ Cell3 wr w.heap.size (.int .i64 r) (.int .i64 c) (.slice A2 zs.length c2) ∧ Cell3 wr (w.heap.size + 1) (.int .i64 0) (.int .i64 0) (.slice none 0 0) ∧ Sl wr U.heap.size A2 zs ∧ Below w.heap.size w wr ∧ V.heap.size ≤ wr.heap.size) (fun i _ => N - (intOf i).toNat)
    case atStart => exact ⟨0, _, Nat.zero_le _, rfl, K5'.out, by rw [HT0.out]; exact Row.nil_ _ _ _, K0'.out, K1'.out, HSV2.out, HBV2.out, Nat.le_refl _⟩
    case round =>
      obtain ⟨k, sv, hk, rfl, h5, hrow, h0, h1, hsl, hbel, hsz⟩ := hrel
      obtain ⟨As, cs, hsve, _, _, _⟩ := hrow.form
      rw [hTL.out k] at hsve
      subst hsve
      by_cases hlt : k < N
      · have HT := Lib.hid (hTS.out k)
        have hqR : k / pc < pr := (Nat.div_lt_iff_lt_mul hpc).2 (by have := HN.out; omega)
        have hmC : k % pc < pc := Nat.mod_lt _ hpc
        have hdv := tdiv_nat k pc
        have hmd := tmod_nat k pc
        obtain ⟨q, hq⟩ : ∃ q, k / pc = q := ⟨_, rfl⟩
        obtain ⟨m, hmq⟩ : ∃ m, k % pc = m := ⟨_, rfl⟩
        rw [hq] at hdv hqR HT
        rw [hmq] at hmd hmC HT
        clear hq hmq
        have hwq : IntKind.i64.wrap (q : Int) = (q : Int) := wrap_in (by omega) (by omega)
        have hwm : IntKind.i64.wrap (m : Int) = (m : Int) := wrap_in (by omega) (by omega)
        obtain ⟨ys, hys⟩ : ∃ ys, T k = ys := ⟨_, rfl⟩
        have hylen : ys.length = k := by rw [← hys]; exact hTL.out k
        rw [hys] at HT hrow
        clear hys
        have hkN : (k : Int) < (N : Int) := by omega
        have hcall := Lib.hid fun wx hsx h1 => block_any r c q m s A2 c2 zs.length U.heap.size zs wx hsx h1 rfl HLEN.out (by omega) (by omega) hs1 (hPS.out q hqR) (hCS.out m hmC)
        have hFB := Lib.hid fun j => (show 0 ≤ bval s c zs q m j ∧ bval s c zs q m j ≤ 4095 from HZ.out _)
        have hBG := Lib.hid fun j hj => blockL_get s c zs q m (s * s) j hj
        have hBL := Lib.hid (blockL_len s c zs q m (s * s))
        obtain ⟨ev, hev⟩ : ∃ ev, bval s c zs q m = ev := ⟨_, rfl⟩
        rw [hev] at HT hFB hBG
        obtain ⟨bl, hbl0⟩ : ∃ bl, blockL s c zs q m (s * s) = bl := ⟨_, rfl⟩
        rw [hbl0] at hcall hBG hBL
        obtain ⟨SS, hSS⟩ : ∃ SS, s * s = SS := ⟨_, rfl⟩
        have hSS1 : 1 ≤ SS ∧ SS ≤ 25 := by rw [← hSS]; exact ⟨Nat.mul_pos hs1.1 hs1.1, Nat.mul_le_mul hs1.2 hs1.2⟩
        rw [hSS] at hBG hBL HT
        clear hev hbl0 hSS
        have HROW := Lib.hid hrow
        have HSL := Lib.hid hsl
        have HBEL := Lib.hid hbel
        have H5 := Lib.hid h5
        have H0 := Lib.hid h0
        have H1 := Lib.hid h1
        have HYL := Lib.hid hylen
        have hbl := Lib.hid hrow.block_lt
        obtain ⟨v0, v1, v2, _, _, _, vlt⟩ := h5
        obtain ⟨c0, c1, c2', _, _, _, clt⟩ := h0
        clear hrow hsl hbel h1 hylen
        go_upto_region 8 with fail
        go_cut [7] (fun s7 wx => ∃ (A7 : Option Addr) (c7 : Nat), s7 = .slice A7 SS c7 ∧ Row wx wr.heap.size wx.heap.size (.slice A7 SS c7) bl ∧ Below wr.heap.size wr wx)
        case first =>
          go_region_held3 (fun w' => w'.cell? ⟨w.heap.size, 0, none⟩ = some (.int .i64 r) ∧ w'.cell? ⟨w.heap.size, 1, none⟩ = some (.int .i64 c) ∧ w'.cell? ⟨w.heap.size, 2, none⟩ = some (.slice A2 zs.length c2) ∧ w'.cell? ⟨w3.heap.size, 1, none⟩ = some (.int .i64 pc))
            (first | exact ⟨c0, c1, c2', v1⟩ | exact ⟨e0, e1, e2, e3⟩ | fail)
            (first | (go_simp; go_at_call 56; refine (hcall.out wr.drew ((drew1 wr).sl HSL.out) (show U.heap.size ≤ wr.heap.size by omega)).mono ?_; rintro e w5 ⟨v5, rfl, hr5, hb5⟩; obtain ⟨A7, c7, hv7, _, _, _⟩ := hr5.form; rw [hBL.out] at hv7; subst hv7; have hb6 : Below wr.heap.size wr w5 := (Below.of_drew wr).trans hb5; obtain ⟨e0, e1, e2, _, _, _, _⟩ := H0.out.below hb6 (show w.heap.size < wr.heap.size by omega); obtain ⟨_, e3, _, _, _, _, _⟩ := H5.out.below hb6 (show w3.heap.size < wr.heap.size by omega)))
          all_goals (
            go_wp2_with fail
            go_meet
            exact ⟨_, _, rfl, hr5, hb6⟩)
        case rest =>
          obtain ⟨X, rfl⟩ : ∃ X, X = wc := ⟨_, rfl⟩
          obtain ⟨A7, c7, rfl, hr7, hb7⟩ := hcut
          have hx7 := hb7.size
          have HROW := Lib.hid ((HROW.out.below hb7 (Nat.le_refl _)).wider (Nat.le_refl _) hx7)
          have HSL := Lib.hid (HSL.out.below hb7 (by omega))
          have HBEL := Lib.hid (HBEL.out.trans (hb7.mono (by omega)))
          have H5 := Lib.hid (H5.out.below hb7 (by omega))
          have H0 := Lib.hid (H0.out.below hb7 (by omega))
          have H1 := Lib.hid (H1.out.below hb7 (by omega))
          have HR7 := Lib.hid hr7
          have hszX : V.heap.size ≤ X.heap.size := by omega
          clear hr7 hb7 v0 v1 v2 vlt c0 c1 c2' clt hcall
          have hSB : Hid (∀ j, 0 ≤ S ev j ∧ S ev j ≤ j * 4095) := fun j => by
            induction j with
            | zero => simp [S]
            | succ j ih => rw [S_succ]; have := hFB.out j; push_cast; omega
          have hSS' : Hid (∀ j, S ev (j + 1) = S ev j + ev j) := fun j => rfl
          have hS0 : Hid (S ev 0 = 0) := rfl
          have hFin : Hid (bfold addF ev SS = S ev SS % 4096) := bfold_add ev (fun j => hFB.out j) SS
          obtain ⟨F, hF⟩ : ∃ F, S ev = F := ⟨_, rfl⟩
          rw [hF] at hSB hSS' hS0 hFin
          clear hF
          go_wp2
          go_loop [8, 9] (fun s i => ∃ j : Nat, j ≤ SS ∧ i = .int .i64 j ∧ s = .int .i64 (F j)) (fun _ i => SS - (intOf i).toNat)
          case atStart => exact ⟨0, Nat.zero_le _, rfl, by rw [hS0.out]⟩
          case round =>
            obtain ⟨j, hj, rfl, rfl⟩ := hrel
            by_cases hjlt : j < SS
            · obtain ⟨g, hg, _, _, hcg, _⟩ := HR7.out.cell_ (j := j) (by rw [hBL.out]; exact hjlt)
              subst hg
              rw [hBG.out j hjlt] at hcg
              have hFn := hSS'.out j
              have hF1 := hSB.out j
              have hF2 := hSB.out (j + 1)
              have hjr := hFB.out j
              obtain ⟨x, hxe⟩ : ∃ x, ev j = x := ⟨_, rfl⟩
              obtain ⟨f1, hf1⟩ : ∃ f1, F j = f1 := ⟨_, rfl⟩
              obtain ⟨f2, hf2⟩ : ∃ f2, F (j + 1) = f2 := ⟨_, rfl⟩
              rw [hxe] at hcg hFn hjr
              rw [hf1] at hFn hF1 ⊢
              rw [hf2] at hFn hF2
              have HF2 := Lib.hid hf2
              have hfe : f1 + x = f2 := hFn.symm
              have hf1b : f1 ≤ 200000 ∧ 0 ≤ f1 := by omega
              have hji : (j : Int) < (SS : Int) := by omega
              clear hFn hxe hf1 hf2 hF2
              go_wp2
              go_round
              case rel => exact ⟨j + 1, by omega, by go_num, by rw [HF2.out]⟩
              case measure => simp [intOf]; omega
            · have e : j = SS := by omega
              subst e
              have hF1 := hSB.out j
              have hsc := Lib.hid fun wx => specRing (F j) wx hF1.1 (by omega)
              rw [hFin.out] at HT
              obtain ⟨z, hze⟩ : ∃ z, F j % 4096 = z := ⟨_, rfl⟩
              rw [hze] at HT hsc
              clear hF1 hze
              obtain ⟨v0, v1, v2, p0, p1, p2, vlt⟩ := H5.out
              obtain ⟨c0, c1, c2', _, _, _, clt⟩ := H0.out
              have hal := World.grownBy_alloc X (.cells #[.int .i64 z] 3) none
              have hownA := (HROW.out.grown hal (fun g e => by cases e)).wider (Nat.le_refl _) (hi' := X.heap.size + 1) (by omega)
              have hD : Drew (X.alloc (.cells #[.int .i64 z] 3)) (X.alloc (.cells #[.int .i64 z] 3)).drew := ⟨1, rfl⟩
              have hownD := hD.row hownA
              have H5A := Lib.hid ((H5.out.grown hal (by simp)).grown (hD.grown none) (by simp))
              have H0A := Lib.hid ((H0.out.grown hal (by simp)).grown (hD.grown none) (by simp))
              have H1A := Lib.hid ((H1.out.grown hal (by simp)).grown (hD.grown none) (by simp))
              have HSA := Lib.hid (hD.sl (HSL.out.below (B' := X.heap.size) ((Below.refl _ X).alloc (Nat.le_refl _) (.cells #[.int .i64 z] 3)) (by omega)))
              have HBA := Lib.hid ((HBEL.out.alloc (by omega) (.cells #[.int .i64 z] 3)).trans (hD.below _))
              have hcz : (X.alloc (.cells #[.int .i64 z] 3)).drew.cell? ⟨X.heap.size, 0, none⟩ = some (.int .i64 z) := World.cell?_alloc_at _ _ _ _ rfl
              have hne : ∀ b, b < V.heap.size → some b ≠ (Value.slice As k cs).ownBlock := fun b hb e => by have := (hbl.out b e.symm).1; omega
              have HNE := Lib.hid hne
              obtain ⟨hx50, hx51, hx52, _, _, _, _⟩ := H5A.out
              obtain ⟨hx00, hx01, hx02, _, _, _, _⟩ := H0A.out
              clear hal hD hne
              go_wp2
              go_region_law (first  | (go_simp; go_at_call 57; refine (hsc.out _).mono ?_; rintro e w' ⟨rfl, rfl⟩)| (refine step_app1 (by rfl) (.tmp 59) (.tmp 62) (by rfl) V.heap.size (X.heap.size + 1) (.slice As k cs) ys k (by rfl) hownD X.heap.size z (by rfl) hcz HYL.out (by omega) (by simp; omega) ?_; intro g5 c5 w5 hr5 hg5 hat5 hlt5; obtain ⟨y3, y4, y5, g3, g4, g5', ylt⟩ := H5A.out.grown hg5 (HNE.out w3.heap.size (by omega)); obtain ⟨y0, y1, y2, _, _, _, _⟩ := H0A.out.grown hg5 (HNE.out w.heap.size (by omega))))
              all_goals (
                have J5 := Lib.hid ((H5A.out.grown hg5 (HNE.out w3.heap.size (by omega))).set2 (.slice (some ⟨g5, 0, none⟩) (k + 1) c5))
                have J0 := Lib.hid ((H0A.out.grown hg5 (HNE.out _ (by omega))).far (a := ⟨w3.heap.size, 2, none⟩) (show w.heap.size ≠ w3.heap.size by omega) (.slice (some ⟨g5, 0, none⟩) (k + 1) c5))
                have J1 := Lib.hid ((H1A.out.grown hg5 (HNE.out _ (by omega))).far (a := ⟨w3.heap.size, 2, none⟩) (show w.heap.size + 1 ≠ w3.heap.size by omega) (.slice (some ⟨g5, 0, none⟩) (k + 1) c5))
                have JS := Lib.hid ((HSA.out.keep (w' := w5) (fun p hp => World.cell?_of_block (hg5.block _ (by simp; omega) (HNE.out _ (by omega))))).keep (w' := w5.setCell ⟨w3.heap.size, 2, none⟩ (.slice (some ⟨g5, 0, none⟩) (k + 1) c5)) (fun p hp => World.cell?_setCell_other _ _ _ _ (fun e => by rw [← e] at hp; exact absurd (show w3.heap.size < U.heap.size from hp) (by omega))))
                have JB := Lib.hid ((HBA.out.grown hg5 (by simp; omega) (fun g e => by have := (hbl.out g e).1; omega)).setCell (p := ⟨w3.heap.size, 2, none⟩) (show w.heap.size ≤ w3.heap.size by omega) (.slice (some ⟨g5, 0, none⟩) (k + 1) c5))
                have JR := Lib.hid (hr5.grown (set_grown w5 w3.heap.size 2 (.slice (some ⟨g5, 0, none⟩) (k + 1) c5)) (fun g e => by cases e; left; omega))
                have hsz5 := hg5.size
                clear hr5 hg5 hat5 y0 y1 y2 y3 y4 y5
                go_wp2
                go_roundw
                case rel => exact ⟨k + 1, _, by omega, by go_num, J5.out, by rw [HT.out]; simpa using JR.out, J0.out, J1.out, JS.out, JB.out, by simp at hsz5 ⊢; omega⟩
                case measure => simp [intOf]; omega)
      · have e : k = N := by omega
        have hE := Lib.hid e
        rw [e, hFull.out] at hrow
        have HROW := Lib.hid hrow
        have HBEL := Lib.hid hbel
        have H1 := Lib.hid h1
        obtain ⟨v0, v1, v2, p0, p1, p2, vlt⟩ := h5
        obtain ⟨b0, b1, b2, g0, g1, g2, blt⟩ := h1
        clear hrow hsl hbel e
        go_wp2
        have P2 := ((H1.out.set0 (.int .i64 pr)).set1 (.int .i64 pc)).set2 (.slice As k cs)
        rw [hE.out] at P2
        have R2 := HROW.out.grown (set_grown _ (w.heap.size + 1) 0 (.int .i64 pr)) (fun g e => by cases e; left; omega)
        have R3 := R2.grown (set_grown _ (w.heap.size + 1) 1 (.int .i64 pc)) (fun g e => by cases e; left; omega)
        have R4 := R3.grown (set_grown _ (w.heap.size + 1) 2 (.slice As k cs)) (fun g e => by cases e; left; omega)
        have B4 := ((HBEL.out.setCell (p := ⟨w.heap.size + 1, 0, none⟩) (by simp) (.int .i64 pr)).setCell (p := ⟨w.heap.size + 1, 1, none⟩) (by simp) (.int .i64 pc)).setCell (p := ⟨w.heap.size + 1, 2, none⟩) (by simp) (.slice As k cs)
        rw [hE.out] at R4 B4 ⊢
        have S4 : ((((wr.setCell ⟨w.heap.size + 1, 0, none⟩ (.int .i64 pr)).setCell ⟨w.heap.size + 1, 1, none⟩ (.int .i64 pc)).setCell ⟨w.heap.size + 1, 2, none⟩ (.slice As N cs)).heap.size) = wr.heap.size := by simp
        obtain ⟨W4, hW4⟩ : ∃ W4, (((wr.setCell ⟨w.heap.size + 1, 0, none⟩ (.int .i64 pr)).setCell ⟨w.heap.size + 1, 1, none⟩ (.int .i64 pc)).setCell ⟨w.heap.size + 1, 2, none⟩ (.slice As N cs)) = W4 := ⟨_, rfl⟩
        rw [hW4] at P2 R4 B4 S4 ⊢
        obtain ⟨z0, z1, z2, _, _, _, _⟩ := P2
        refine bodyPost_ret (v := matV pr pc (.slice As N cs)) (by simp [results, Try.results16, go_sem, z0, z1, z2]) rfl ?_
        exact ⟨_, rfl, R4.wider (by omega) (by omega), B4⟩
end Go.Proofs.Ytakjmdjjpalaiaa
