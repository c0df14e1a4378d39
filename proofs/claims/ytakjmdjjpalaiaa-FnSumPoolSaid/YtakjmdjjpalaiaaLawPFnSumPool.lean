/- The walk of the law FnSumPool. (Printed by gen_LawP.py.) -/
import Derived.Test.YtakjmdjjpalaiaaLawE3
import Derived.Test.YtakjmdjjpalaiaaDrawM2
import Derived.Deep.RegionHeld3
namespace Go.Proofs.Ytakjmdjjpalaiaa
open Go.RowKit
theorem smp_one {r c : Int} {zs : List Int} (h : OkM r c zs) : smpR r c 1 zs = r ∧ smpC r c 1 zs = c ∧ smpZ r c 1 zs = zs := by
  have hb : OkB r c zs 1 := ⟨h, by omega, Int.emod_one r, Int.emod_one c⟩
  unfold smpR smpC smpZ
  rw [if_pos hb, if_pos hb, if_pos hb]
  obtain ⟨rn, rfl⟩ := Int.eq_ofNat_of_zero_le (show 0 ≤ r by have := h.1; omega)
  obtain ⟨cn, rfl⟩ := Int.eq_ofNat_of_zero_le (show 0 ≤ c by have := h.2.1; omega)
  have hl := h.2.2.1
  have hl' : zs.length = rn * cn := by
    have e : ((rn * cn : Nat) : Int) = (rn : Int) * (cn : Int) := by simp
    omega
  simp only [Int.toNat_natCast, Int.toNat_one, Nat.div_one]
  exact ⟨trivial, trivial, pool_one addF rn cn zs hl'⟩
/-- What a pool of sums is. -/
theorem smp_yes {r c l : Int} {zs : List Int} (h : OkB r c zs l) : ∃ rn cn ln p1 p2 : Nat, r = rn ∧ c = cn ∧ l = ln ∧ (1 ≤ rn ∧ rn ≤ 5) ∧ (1 ≤ cn ∧ cn ≤ 5) ∧ (1 ≤ ln ∧ ln ≤ 5) ∧ 1 ≤ p1 ∧ 1 ≤ p2 ∧ p1 * ln = rn ∧ p2 * ln = cn ∧
    smpR r c l zs = p1 ∧ smpC r c l zs = p2 ∧ (smpZ r c l zs).length = p1 * p2 ∧ (∀ j, j < zs.length → 0 ≤ zs.getD j 0 ∧ zs.getD j 0 ≤ 4095) ∧ (∀ j, 0 ≤ (smpZ r c l zs).getD j 0 ∧ (smpZ r c l zs).getD j 0 ≤ 4095) ∧ rsum (smpZ r c l zs) (smpZ r c l zs).length = rsum zs zs.length := by
  have hz := h.1.2.2.2
  have hR : smpR r c l zs = ((r.toNat / l.toNat : Nat) : Int) := by unfold smpR; rw [if_pos h]
  have hC : smpC r c l zs = ((c.toNat / l.toNat : Nat) : Int) := by unfold smpC; rw [if_pos h]
  have hZ : smpZ r c l zs = poolZ addF l.toNat (r.toNat / l.toNat) (c.toNat / l.toNat) zs := by unfold smpZ; rw [if_pos h]
  have hlen := h.1.2.2.1
  have hr5 := h.1.1
  have hc5 := h.1.2.1
  obtain ⟨rn, cn, ln, rfl, rfl, rfl, hl, hr, hc⟩ := h.nat
  rw [hR, hC, hZ]
  simp only [Int.toNat_natCast]
  obtain ⟨p1, hp1⟩ : ∃ p, rn / ln = p := ⟨_, rfl⟩
  obtain ⟨p2, hp2⟩ : ∃ p, cn / ln = p := ⟨_, rfl⟩
  rw [hp1] at hr
  rw [hp2] at hc
  rw [hp1, hp2]
  have q1 : 1 ≤ p1 := by cases p1 with | zero => simp at hr; omega | succ k => omega
  have q2 : 1 ≤ p2 := by cases p2 with | zero => simp at hc; omega | succ k => omega
  have hpl : (poolZ addF ln p1 p2 zs).length = p1 * p2 := by rw [poolZ, tab_len]
  have hzl : zs.length = p1 * ln * (p2 * ln) := by
    rw [hr, hc]
    have e : ((rn * cn : Nat) : Int) = (rn : Int) * (cn : Int) := by simp
    omega
  refine ⟨rn, cn, ln, p1, p2, rfl, rfl, rfl, by omega, by omega, hl, q1, q2, hr, hc, rfl, rfl, hpl, hz, fun j => ?_, ?_⟩
  · rw [← poolTo_full addF ln p1 p2 zs hl.1 q2]
    exact poolTo_rng addF (fun a b _ _ => by unfold addF; omega) ln p1 p2 zs (fun p => getD_rng hz p) _ j
  · rw [hpl, pool_sum ln p1 p2 zs hl.1 hz, ← hzl]
set_option maxRecDepth 20000 in
set_option maxHeartbeats 3200000 in
theorem law_FnSumPool (w : World) (A : Option Addr) (n c : Nat) (h0 : Code8 w A n ∧ n ≤ c ∧ c ≤ maxLen) :
    Calls Try.prog 4 #[.slice A n c] w fun e w' => e = .returned (.bool true) ∧ Below w.heap.size w w' := by
  obtain ⟨hc, hnc, hcm⟩ := h0
  have hcm' := hcm
  unfold maxLen at hcm'
  by_cases hn : 1048576 < n
  · go_enter Try.func4, Try.ntmps4
    go_wp2
    go_ret
    exact ⟨rfl, Below.refl _ _⟩
  have hd1 : decide ((1048576 : Int) < (n : Int)) = false := by simp; omega
  go_enter Try.func4, Try.ntmps4
  go_wp2_with fail
  refine (drawSum A n c w (by omega) hnc hcm hc).mono ?_
  rintro e W0 ⟨r, cc, sm, zs, l, rfl, hr, zl, r0, r1, c0, c1, l0, l1, hb⟩
  obtain ⟨Am, cm, rfl, hcp1, hcp2, _⟩ := hr.form
  have HCPm := Lib.hid (And.intro hcp1 hcp2)
  clear hcp1 hcp2
  have s0 := hb.size
  have Rm_0 := Lib.hid hr
  have HB_0 := Lib.hid hb
  clear hr hb hc
  obtain ⟨pr, hpr⟩ : ∃ x, smpR r cc l zs = x := ⟨_, rfl⟩
  obtain ⟨pc, hpc⟩ : ∃ x, smpC r cc l zs = x := ⟨_, rfl⟩
  obtain ⟨ps, hps⟩ : ∃ x, smpZ r cc l zs = x := ⟨_, rfl⟩
  have hpl := smpZ_len r cc l zs (by omega)
  rw [hps] at hpl
  have HP := Lib.hid (And.intro hpr (And.intro hpc hps))
  clear hpr hpc hps
  have kn := Cell3.new W0 (.int .i64 r) (.int .i64 cc) (.slice Am zs.length cm) 26
  obtain ⟨W1, hW1⟩ : ∃ W, W0.alloc (.cells #[.int .i64 r, .int .i64 cc, .slice Am zs.length cm] 26) = W := ⟨_, rfl⟩
  rw [hW1] at kn
  have z1 : W1.heap.size = W0.heap.size + 1 := by rw [← hW1]; simp
  have hal : Below W0.heap.size W0 W1 := hW1 ▸ (Below.refl _ _).alloc (Nat.le_refl _) _
  have s1 := hal.size
  have Rm_1 := Lib.hid (Rm_0.out.below hal (show W0.heap.size ≤ W0.heap.size by omega))
  have HB_1 := Lib.hid (HB_0.out.trans (hal.mono (show w.heap.size ≤ W0.heap.size by omega)))
  clear Rm_0 HB_0 hal
  have K3_1 := Lib.hid kn
  clear kn
  obtain ⟨x30, x31, x32, _, _, _, x3lt⟩ := K3_1.out
  go_wp2_with fail
  refine (implSum_any r cc l Am cm _ W1.heap.size zs W1 (Rm_1.out.sl_now.more (show W0.heap.size ≤ W1.heap.size by omega)) (Nat.le_refl _) rfl (by omega)).mono ?_
  rintro e W2 ⟨sv2, rfl, hr, hb⟩
  rw [HP.out.1, HP.out.2.1]
  rw [HP.out.2.2] at hr
  obtain ⟨Ax, cx, rfl, hcp1, hcp2, _⟩ := hr.form
  have HCPx := Lib.hid (And.intro hcp1 hcp2)
  clear hcp1 hcp2
  clear x30 x31 x32 x3lt
  have s2 := hb.size
  have K3_2 := Lib.hid (K3_1.out.below hb (show W0.heap.size < W1.heap.size by omega))
  have Rm_2 := Lib.hid (Rm_1.out.below hb (show W0.heap.size ≤ W1.heap.size by omega))
  have HB_2 := Lib.hid (HB_1.out.trans (hb.mono (show w.heap.size ≤ W1.heap.size by omega)))
  clear K3_1 Rm_1 HB_1 hb
  have Rx_2 := Lib.hid hr
  clear hr
  have kn := Cell3.new W2 (.int .i64 pr) (.int .i64 pc) (.slice Ax ps.length cx) 26
  obtain ⟨W3, hW3⟩ : ∃ W, W2.alloc (.cells #[.int .i64 pr, .int .i64 pc, .slice Ax ps.length cx] 26) = W := ⟨_, rfl⟩
  rw [hW3] at kn
  have z3 : W3.heap.size = W2.heap.size + 1 := by rw [← hW3]; simp
  have hal : Below W2.heap.size W2 W3 := hW3 ▸ (Below.refl _ _).alloc (Nat.le_refl _) _
  have s3 := hal.size
  have K3_3 := Lib.hid (K3_2.out.below hal (show W0.heap.size < W2.heap.size by omega))
  have Rm_3 := Lib.hid (Rm_2.out.below hal (show W0.heap.size ≤ W2.heap.size by omega))
  have Rx_3 := Lib.hid (Rx_2.out.below hal (show W2.heap.size ≤ W2.heap.size by omega))
  have HB_3 := Lib.hid (HB_2.out.trans (hal.mono (show w.heap.size ≤ W2.heap.size by omega)))
  clear K3_2 Rm_2 Rx_2 HB_2 hal
  have K5_3 := Lib.hid kn
  clear kn
  obtain ⟨x30, x31, x32, _, _, _, x3lt⟩ := K3_3.out
  obtain ⟨x50, x51, x52, _, _, _, x5lt⟩ := K5_3.out
  have HMK := Lib.hid fun w' (hx : Below W3.heap.size W3 w') => (show (w'.cell? ⟨W0.heap.size, 0, none⟩ = some (.int .i64 (r)) ∧ w'.cell? ⟨W0.heap.size, 1, none⟩ = some (.int .i64 (cc)) ∧ w'.cell? ⟨W0.heap.size, 2, none⟩ = some (.slice Am zs.length cm)) ∧ (w'.cell? ⟨W2.heap.size, 0, none⟩ = some (.int .i64 (pr)) ∧ w'.cell? ⟨W2.heap.size, 1, none⟩ = some (.int .i64 (pc)) ∧ w'.cell? ⟨W2.heap.size, 2, none⟩ = some (.slice Ax ps.length cx)) from ⟨⟨(K3_3.out.below hx (show _ < W3.heap.size by omega)).c0, (K3_3.out.below hx (show _ < W3.heap.size by omega)).c1, (K3_3.out.below hx (show _ < W3.heap.size by omega)).c2⟩, ⟨(K5_3.out.below hx (show _ < W3.heap.size by omega)).c0, (K5_3.out.below hx (show _ < W3.heap.size by omega)).c1, (K5_3.out.below hx (show _ < W3.heap.size by omega)).c2⟩⟩)
  have hcur : Below W3.heap.size W3 W3.drew := Below.of_drew _
  go_wp2
  go_region_held3 (fun w' => (w'.cell? ⟨W0.heap.size, 0, none⟩ = some (.int .i64 (r)) ∧ w'.cell? ⟨W0.heap.size, 1, none⟩ = some (.int .i64 (cc)) ∧ w'.cell? ⟨W0.heap.size, 2, none⟩ = some (.slice Am zs.length cm)) ∧ (w'.cell? ⟨W2.heap.size, 0, none⟩ = some (.int .i64 (pr)) ∧ w'.cell? ⟨W2.heap.size, 1, none⟩ = some (.int .i64 (pc)) ∧ w'.cell? ⟨W2.heap.size, 2, none⟩ = some (.slice Ax ps.length cx)))
    (first | exact HMK.out _ hcur | exact HMK.out _ (hcur.alloc hcur.size _) | fail)
    (first
      | (go_simp; go_at_call 16; (with_reducible refine (specSum_any r cc l Am cm _ W3.heap.size zs W3.drew ((Rm_3.out.sl_now.more (show W0.heap.size ≤ W3.heap.size by omega)).below hcur (Nat.le_refl _)) hcur.size rfl (by omega)).mono ?_); rintro e Wa ⟨sva, rfl, hra, hba⟩; rw [HP.out.1, HP.out.2.1]; rw [HP.out.2.2] at hra; obtain ⟨Aq, cq, rfl, _, _, _⟩ := hra.form; have hcur := hcur.trans (hba.mono hcur.size))
      | (go_simp; go_at_call 23; (with_reducible refine (sameM_same pr pc Ax Aq cx cq ps Wa (((Rx_3.out.sl_now.more (show W2.heap.size ≤ W3.heap.size by omega)).below hcur (Nat.le_refl _)).more hcur.size) hra.sl_now (by omega)).mono ?_); rintro e Wb ⟨rfl, hbb⟩; have hcur := hcur.trans (hbb.mono hcur.size))
      | fail)
  obtain ⟨W4, hWb⟩ : ∃ W, W = Wb := ⟨_, rfl⟩
  subst hWb
  clear HMK
  clear x30 x31 x32 x3lt x50 x51 x52 x5lt
  have s4 := hcur.size
  have K3_4 := Lib.hid (K3_3.out.below hcur (show W0.heap.size < W3.heap.size by omega))
  have K5_4 := Lib.hid (K5_3.out.below hcur (show W2.heap.size < W3.heap.size by omega))
  have Rm_4 := Lib.hid (Rm_3.out.below hcur (show W0.heap.size ≤ W3.heap.size by omega))
  have Rx_4 := Lib.hid (Rx_3.out.below hcur (show W2.heap.size ≤ W3.heap.size by omega))
  have HB_4 := Lib.hid (HB_3.out.trans (hcur.mono (show w.heap.size ≤ W3.heap.size by omega)))
  clear K3_3 K5_3 Rm_3 Rx_3 HB_3 hcur
  clear hra hba hbb
  by_cases hok : OkB r cc zs l
  · have hm := hok.1
    obtain ⟨rn, cn, ln, p1, p2, rfl, rfl, rfl, hrn, hcn, hln, hp1, hp2, hm1, hm2, eR, eC, hlen, hzr, hpr, hsum⟩ := smp_yes hok
    rw [HP.out.1] at eR
    rw [HP.out.2.1] at eC
    rw [HP.out.2.2] at hlen hpr hsum
    subst eR eC
    have HPR := Lib.hid hpr
    have HZR := Lib.hid hzr
    have HSUM := Lib.hid hsum
    have HM := Lib.hid hm
    have hnz : ((p1 : Int) == 0) = false := by simp; omega
    have hm1i : IntKind.i64.wrap ((p1 : Int) * (ln : Int)) = (rn : Int) := by rw [← hm1]; simp only [Int.natCast_mul]; exact wrap_in (by rw [← Int.natCast_mul, hm1]; omega) (by rw [← Int.natCast_mul, hm1]; omega)
    have hm2i : IntKind.i64.wrap ((p2 : Int) * (ln : Int)) = (cn : Int) := by rw [← hm2]; simp only [Int.natCast_mul]; exact wrap_in (by rw [← Int.natCast_mul, hm2]; omega) (by rw [← Int.natCast_mul, hm2]; omega)
    clear hok hm hpr hzr hsum hlen hm1 hm2
    obtain ⟨x30, x31, x32, _, _, _, x3lt⟩ := K3_4.out
    obtain ⟨x50, x51, x52, _, _, _, x5lt⟩ := K5_4.out
    go_wp2
    clear x30 x31 x32 x3lt x50 x51 x52 x5lt
    obtain ⟨x30, x31, x32, _, _, _, x3lt⟩ := K3_4.out
    obtain ⟨x50, x51, x52, _, _, _, x5lt⟩ := K5_4.out
    go_loop [6, 8] (fun a i => ∃ k : Nat, k ≤ zs.length ∧ a = .int .i64 (rsum zs k) ∧ i = .int .i64 k) (fun _ i => zs.length - (intOf i).toNat)
    case atStart => exact ⟨0, Nat.zero_le _, rfl, rfl⟩
    case round =>
      obtain ⟨k, hk, rfl, rfl⟩ := hrel
      by_cases hlt : k < zs.length
      · obtain ⟨g, hA, _, _, hce, hfr⟩ := Rm_4.out.cell_ (j := k) hlt
        have hrng := rsum_range zs k
        have hel : 0 ≤ zs.getD k 0 ∧ zs.getD k 0 ≤ 4095 := HZR.out k hlt
        have HR := Lib.hid (show rsum zs (k + 1) = (rsum zs k + zs.getD k 0) % 4096 from rfl)
        obtain ⟨z, hz⟩ : ∃ z, zs.getD k 0 = z := ⟨_, rfl⟩
        obtain ⟨q, hq⟩ : ∃ q, rsum zs k = q := ⟨_, rfl⟩
        rw [hz] at hce hel HR
        rw [hq] at hrng HR
        simp only [hq]
        clear hz hq
        subst hA
        go_wp2_with fail
        refine (stepAdd q z _ hrng hel).mono ?_
        rintro e w' ⟨rfl, rfl⟩
        go_wp2
        go_round
        case rel => exact ⟨k + 1, by omega, by rw [HR.out]; rfl, by go_num⟩
        case measure => simp [intOf]; omega
      · have hke : k = zs.length := by omega
        subst hke
        go_wp2
        clear x30 x31 x32 x3lt x50 x51 x52 x5lt
        obtain ⟨q, hq⟩ : ∃ q, rsum zs zs.length = q := ⟨_, rfl⟩
        rw [hq] at HSUM ⊢
        clear hq
        obtain ⟨x30, x31, x32, _, _, _, x3lt⟩ := K3_4.out
        obtain ⟨x50, x51, x52, _, _, _, x5lt⟩ := K5_4.out
        go_loop [7, 9] (fun a i => ∃ k : Nat, k ≤ ps.length ∧ a = .int .i64 (rsum ps k) ∧ i = .int .i64 k) (fun _ i => ps.length - (intOf i).toNat)
        case atStart => exact ⟨0, Nat.zero_le _, rfl, rfl⟩
        case round =>
          obtain ⟨k, hk, rfl, rfl⟩ := hrel
          by_cases hlt : k < ps.length
          · obtain ⟨g, hA, _, _, hce, hfr⟩ := Rx_4.out.cell_ (j := k) hlt
            have hrng := rsum_range ps k
            have hel : 0 ≤ ps.getD k 0 ∧ ps.getD k 0 ≤ 4095 := HPR.out k
            have HR := Lib.hid (show rsum ps (k + 1) = (rsum ps k + ps.getD k 0) % 4096 from rfl)
            obtain ⟨z, hz⟩ : ∃ z, ps.getD k 0 = z := ⟨_, rfl⟩
            obtain ⟨q, hq⟩ : ∃ q, rsum ps k = q := ⟨_, rfl⟩
            rw [hz] at hce hel HR
            rw [hq] at hrng HR
            simp only [hq]
            clear hz hq
            subst hA
            go_wp2_with fail
            refine (stepAdd q z _ hrng hel).mono ?_
            rintro e w' ⟨rfl, rfl⟩
            go_wp2
            go_round
            case rel => exact ⟨k + 1, by omega, by rw [HR.out]; rfl, by go_num⟩
            case measure => simp [intOf]; omega
          · have hke : k = ps.length := by omega
            subst hke
            rw [HSUM.out]
            have HO := Lib.hid (smp_one HM.out)
            obtain ⟨x30, x31, x32, _, _, _, x3lt⟩ := K3_4.out
            obtain ⟨x50, x51, x52, _, _, _, x5lt⟩ := K5_4.out
            have HMK := Lib.hid fun w' (hx : Below W4.heap.size W4 w') => (show (w'.cell? ⟨W0.heap.size, 0, none⟩ = some (.int .i64 (rn)) ∧ w'.cell? ⟨W0.heap.size, 1, none⟩ = some (.int .i64 (cn)) ∧ w'.cell? ⟨W0.heap.size, 2, none⟩ = some (.slice Am zs.length cm)) ∧ (w'.cell? ⟨W2.heap.size, 0, none⟩ = some (.int .i64 (p1)) ∧ w'.cell? ⟨W2.heap.size, 1, none⟩ = some (.int .i64 (p2)) ∧ w'.cell? ⟨W2.heap.size, 2, none⟩ = some (.slice Ax ps.length cx)) from ⟨⟨(K3_4.out.below hx (show _ < W4.heap.size by omega)).c0, (K3_4.out.below hx (show _ < W4.heap.size by omega)).c1, (K3_4.out.below hx (show _ < W4.heap.size by omega)).c2⟩, ⟨(K5_4.out.below hx (show _ < W4.heap.size by omega)).c0, (K5_4.out.below hx (show _ < W4.heap.size by omega)).c1, (K5_4.out.below hx (show _ < W4.heap.size by omega)).c2⟩⟩)
            have hcur : Below W4.heap.size W4 W4.drew := Below.of_drew _
            go_wp2
            go_region_held3 (fun w' => (w'.cell? ⟨W0.heap.size, 0, none⟩ = some (.int .i64 (rn)) ∧ w'.cell? ⟨W0.heap.size, 1, none⟩ = some (.int .i64 (cn)) ∧ w'.cell? ⟨W0.heap.size, 2, none⟩ = some (.slice Am zs.length cm)) ∧ (w'.cell? ⟨W2.heap.size, 0, none⟩ = some (.int .i64 (p1)) ∧ w'.cell? ⟨W2.heap.size, 1, none⟩ = some (.int .i64 (p2)) ∧ w'.cell? ⟨W2.heap.size, 2, none⟩ = some (.slice Ax ps.length cx)))
              (first | exact HMK.out _ hcur | exact HMK.out _ (hcur.alloc hcur.size _) | fail)
              (first
                | (go_simp; go_at_call 18; (with_reducible refine (implSum_any rn cn 1 Am cm _ W4.heap.size zs W4.drew ((Rm_4.out.sl_now.more (show W0.heap.size ≤ W4.heap.size by omega)).below hcur (Nat.le_refl _)) hcur.size rfl (by omega)).mono ?_); rintro e Wa ⟨sva, rfl, hra, hba⟩; rw [HO.out.1, HO.out.2.1]; rw [HO.out.2.2] at hra; obtain ⟨Aq, cq, rfl, _, _, _⟩ := hra.form; have hcur := hcur.trans (hba.mono hcur.size))
                | (go_simp; go_at_call 23; (with_reducible refine (sameM_same rn cn Aq Am cq cm zs Wa hra.sl_now (((Rm_4.out.sl_now.more (show W0.heap.size ≤ W4.heap.size by omega)).below hcur (Nat.le_refl _)).more hcur.size) (by omega)).mono ?_); rintro e Wb ⟨rfl, hbb⟩; have hcur := hcur.trans (hbb.mono hcur.size))
                | fail)
            go_wp2
            go_ret
            exact ⟨rfl, HB_4.out.trans (hcur.mono HB_4.out.size)⟩
  · have e1 : pr = 0 := by rw [← HP.out.1]; unfold smpR; rw [if_neg hok]
    have e2 : ps = [] := by rw [← HP.out.2.2]; unfold smpZ; rw [if_neg hok]
    subst e1 e2
    obtain ⟨x30, x31, x32, _, _, _, x3lt⟩ := K3_4.out
    obtain ⟨x50, x51, x52, _, _, _, x5lt⟩ := K5_4.out
    go_wp2_with fail
    refine (alive_any _).mono ?_
    rintro e w' ⟨rfl, rfl⟩
    go_wp2
    go_ret
    exact ⟨rfl, HB_4.out⟩
end Go.Proofs.Ytakjmdjjpalaiaa
