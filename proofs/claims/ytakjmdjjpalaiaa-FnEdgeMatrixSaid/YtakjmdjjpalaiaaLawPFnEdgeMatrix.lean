/- The walk of the law FnEdgeMatrix. (Printed by gen_LawP.py.) -/
import Derived.Test.YtakjmdjjpalaiaaLawE1
import Derived.Test.YtakjmdjjpalaiaaDrawM4
import Derived.Test.YtakjmdjjpalaiaaFnsG2
import Derived.Test.YtakjmdjjpalaiaaFnsE8
import Derived.Deep.RegionHeld3
namespace Go.Proofs.Ytakjmdjjpalaiaa
open Go.RowKit
/-- What a matrix with edges is. -/
theorem edg_yes {r c l : Int} {zs : List Int} (h : OkE r c zs l) : ∃ rn cn ln R C : Nat, r = rn ∧ c = cn ∧ l = ln ∧ rn + 2 * ln = R ∧ cn + 2 * ln = C ∧ (1 ≤ R ∧ R ≤ 5) ∧ (1 ≤ C ∧ C ≤ 5) ∧ edgR r c l zs = (R : Int) ∧ edgC r c l zs = (C : Int) ∧ OkM R C (edgZ r c l zs) ∧
    rsum (edgZ r c l zs) (edgZ r c l zs).length = rsum zs zs.length ∧ OkM cn rn (turnZ rn cn zs) ∧ edgR cn rn ln (turnZ rn cn zs) = (C : Int) ∧ edgC cn rn ln (turnZ rn cn zs) = (R : Int) ∧ edgZ cn rn ln (turnZ rn cn zs) = turnZ R C (edgZ r c l zs) := by
  obtain ⟨hm, hd, hr5, hc5⟩ := id h
  have hR : edgR r c l zs = ((r.toNat + 2 * l.toNat : Nat) : Int) := by unfold edgR; rw [if_pos h]
  have hC : edgC r c l zs = ((c.toNat + 2 * l.toNat : Nat) : Int) := by unfold edgC; rw [if_pos h]
  have hZ : edgZ r c l zs = edgeZ l.toNat r.toNat c.toNat zs := by unfold edgZ; rw [if_pos h]
  obtain ⟨rn, rfl⟩ := Int.eq_ofNat_of_zero_le (show 0 ≤ r by have := hm.1; omega)
  obtain ⟨cn, rfl⟩ := Int.eq_ofNat_of_zero_le (show 0 ≤ c by have := hm.2.1; omega)
  obtain ⟨ln, rfl⟩ := Int.eq_ofNat_of_zero_le hd.1
  have hl : zs.length = rn * cn := by
    have h1 := hm.2.2.1
    have e : ((rn * cn : Nat) : Int) = (rn : Int) * (cn : Int) := by simp
    omega
  have hz := hm.2.2.2
  simp only [Int.toNat_natCast] at hR hC hZ
  have hm1 := hm.1
  have hm2 := hm.2.1
  have hTM : OkM cn rn (turnZ rn cn zs) := by
    refine ⟨hm2, hm1, by rw [turnZ_len]; simp, ?_⟩
    intro j hj
    exact tab_rng (r := cn) (c := rn) (f := fun a b => zs.getD (b * cn + a) 0) (fun a b _ _ => getD_rng hz _) j hj
  have hTE : OkE cn rn (turnZ rn cn zs) ln := ⟨hTM, hd, hc5, hr5⟩
  refine ⟨rn, cn, ln, rn + 2 * ln, cn + 2 * ln, rfl, rfl, rfl, rfl, rfl, by omega, by omega, hR, hC, ?_, ?_, hTM, ?_, ?_, ?_⟩
  · rw [hZ]
    refine ⟨by omega, by omega, by rw [edgeZ, tab_len]; simp, ?_⟩
    intro j hj
    exact tab_rng (f := edgeAt ln rn cn zs) (fun a b _ _ => edgeAt_rng hz _ _ _ _ _) j hj
  · rw [hZ, show (edgeZ ln rn cn zs).length = (rn + 2 * ln) * (cn + 2 * ln) by rw [edgeZ, tab_len], edge_sum ln rn cn zs hl, ← hl]
  · unfold edgR; rw [if_pos hTE]; simp
  · unfold edgC; rw [if_pos hTE]; simp
  · rw [hZ, turn_edge]
    unfold edgZ
    rw [if_pos hTE]
    simp only [Int.toNat_natCast]
set_option maxRecDepth 20000 in
set_option maxHeartbeats 3200000 in
theorem law_FnEdgeMatrix (w : World) (A : Option Addr) (n c : Nat) (h0 : Code8 w A n ∧ n ≤ c ∧ c ≤ maxLen) :
    Calls Try.prog 14 #[.slice A n c] w fun e w' => e = .returned (.bool true) ∧ Below w.heap.size w w' := by
  obtain ⟨hc, hnc, hcm⟩ := h0
  have hcm' := hcm
  unfold maxLen at hcm'
  by_cases hn : 1048576 < n
  · go_enter Try.func14, Try.ntmps14
    go_wp2
    go_ret
    exact ⟨rfl, Below.refl _ _⟩
  have hd1 : decide ((1048576 : Int) < (n : Int)) = false := by simp; omega
  go_enter Try.func14, Try.ntmps14
  go_wp2_with fail
  refine (drawEdge A n c w (by omega) hnc hcm hc).mono ?_
  rintro e W0 ⟨r, cc, sm, zs, l, rfl, hr, zl, r0, r1, c0, c1, l0, l1, hb⟩
  obtain ⟨Am, cm, rfl, hcp1, hcp2, _⟩ := hr.form
  have HCPm := Lib.hid (And.intro hcp1 hcp2)
  clear hcp1 hcp2
  have s0 := hb.size
  have Rm_0 := Lib.hid hr
  have HB_0 := Lib.hid hb
  clear hr hb hc
  obtain ⟨pr, hpr⟩ : ∃ x, edgR r cc l zs = x := ⟨_, rfl⟩
  obtain ⟨pc, hpc⟩ : ∃ x, edgC r cc l zs = x := ⟨_, rfl⟩
  obtain ⟨ps, hps⟩ : ∃ x, edgZ r cc l zs = x := ⟨_, rfl⟩
  have hpl := edgZ_len r cc l zs (by omega)
  rw [hps] at hpl
  have HP := Lib.hid (And.intro hpr (And.intro hpc hps))
  clear hpr hpc hps
  have kn := Cell3.new W0 (.int .i64 r) (.int .i64 cc) (.slice Am zs.length cm) 26
  obtain ⟨W1, hW1⟩ : ∃ W, W0.alloc (.cells #[.int .i64 r, .int .i64 cc, .slice Am zs.length cm] 26) = W := ⟨_, rfl⟩
  rw [hW1] at kn
  have z1 : W1.heap.size = W0.heap.size + 1 := by rw [← hW1]; simp
  have hal : Below W0.heap.size W0 W1 := hW1 ▸ (Below.refl _ _).alloc (Nat.le_refl _) _
  have s1 := hal.size
  have Rm_1 := Lib.hid (Rm_0.out.below hal (show W0.heap.size ≤ W0.heap.size by omega))
  have HB_1 := Lib.hid (HB_0.out.trans (hal.mono (show w.heap.size ≤ W0.heap.size by omega)))
  clear Rm_0 HB_0 hal
  have K3_1 := Lib.hid kn
  clear kn
  obtain ⟨x30, x31, x32, _, _, _, x3lt⟩ := K3_1.out
  go_wp2_with fail
  refine (implEdge_any r cc l Am cm _ W1.heap.size zs W1 (Rm_1.out.sl_now.more (show W0.heap.size ≤ W1.heap.size by omega)) (Nat.le_refl _) rfl (by omega) HCPm.out.1 HCPm.out.2).mono ?_
  rintro e W2 ⟨sv2, rfl, hr, hb⟩
  rw [HP.out.1, HP.out.2.1]
  rw [HP.out.2.2] at hr
  obtain ⟨Ax, cx, rfl, hcp1, hcp2, _⟩ := hr.form
  have HCPx := Lib.hid (And.intro hcp1 hcp2)
  clear hcp1 hcp2
  clear x30 x31 x32 x3lt
  have s2 := hb.size
  have K3_2 := Lib.hid (K3_1.out.below hb (show W0.heap.size < W1.heap.size by omega))
  have Rm_2 := Lib.hid (Rm_1.out.below hb (show W0.heap.size ≤ W1.heap.size by omega))
  have HB_2 := Lib.hid (HB_1.out.trans (hb.mono (show w.heap.size ≤ W1.heap.size by omega)))
  clear K3_1 Rm_1 HB_1 hb
  have Rx_2 := Lib.hid hr
  clear hr
  have kn := Cell3.new W2 (.int .i64 pr) (.int .i64 pc) (.slice Ax ps.length cx) 26
  obtain ⟨W3, hW3⟩ : ∃ W, W2.alloc (.cells #[.int .i64 pr, .int .i64 pc, .slice Ax ps.length cx] 26) = W := ⟨_, rfl⟩
  rw [hW3] at kn
  have z3 : W3.heap.size = W2.heap.size + 1 := by rw [← hW3]; simp
  have hal : Below W2.heap.size W2 W3 := hW3 ▸ (Below.refl _ _).alloc (Nat.le_refl _) _
  have s3 := hal.size
  have K3_3 := Lib.hid (K3_2.out.below hal (show W0.heap.size < W2.heap.size by omega))
  have Rm_3 := Lib.hid (Rm_2.out.below hal (show W0.heap.size ≤ W2.heap.size by omega))
  have Rx_3 := Lib.hid (Rx_2.out.below hal (show W2.heap.size ≤ W2.heap.size by omega))
  have HB_3 := Lib.hid (HB_2.out.trans (hal.mono (show w.heap.size ≤ W2.heap.size by omega)))
  clear K3_2 Rm_2 Rx_2 HB_2 hal
  have K5_3 := Lib.hid kn
  clear kn
  obtain ⟨x30, x31, x32, _, _, _, x3lt⟩ := K3_3.out
  obtain ⟨x50, x51, x52, _, _, _, x5lt⟩ := K5_3.out
  have HMK := Lib.hid fun w' (hx : Below W3.heap.size W3 w') => (show (w'.cell? ⟨W0.heap.size, 0, none⟩ = some (.int .i64 (r)) ∧ w'.cell? ⟨W0.heap.size, 1, none⟩ = some (.int .i64 (cc)) ∧ w'.cell? ⟨W0.heap.size, 2, none⟩ = some (.slice Am zs.length cm)) ∧ (w'.cell? ⟨W2.heap.size, 0, none⟩ = some (.int .i64 (pr)) ∧ w'.cell? ⟨W2.heap.size, 1, none⟩ = some (.int .i64 (pc)) ∧ w'.cell? ⟨W2.heap.size, 2, none⟩ = some (.slice Ax ps.length cx)) from ⟨⟨(K3_3.out.below hx (show _ < W3.heap.size by omega)).c0, (K3_3.out.below hx (show _ < W3.heap.size by omega)).c1, (K3_3.out.below hx (show _ < W3.heap.size by omega)).c2⟩, ⟨(K5_3.out.below hx (show _ < W3.heap.size by omega)).c0, (K5_3.out.below hx (show _ < W3.heap.size by omega)).c1, (K5_3.out.below hx (show _ < W3.heap.size by omega)).c2⟩⟩)
  have hcur : Below W3.heap.size W3 W3.drew := Below.of_drew _
  go_wp2
  go_region_held3 (fun w' => (w'.cell? ⟨W0.heap.size, 0, none⟩ = some (.int .i64 (r)) ∧ w'.cell? ⟨W0.heap.size, 1, none⟩ = some (.int .i64 (cc)) ∧ w'.cell? ⟨W0.heap.size, 2, none⟩ = some (.slice Am zs.length cm)) ∧ (w'.cell? ⟨W2.heap.size, 0, none⟩ = some (.int .i64 (pr)) ∧ w'.cell? ⟨W2.heap.size, 1, none⟩ = some (.int .i64 (pc)) ∧ w'.cell? ⟨W2.heap.size, 2, none⟩ = some (.slice Ax ps.length cx)))
    (first | exact HMK.out _ hcur | exact HMK.out _ (hcur.alloc hcur.size _) | fail)
    (first
      | (go_simp; go_at_call 49; (with_reducible refine (specEdge_any r cc l Am cm _ W3.heap.size zs W3.drew ((Rm_3.out.sl_now.more (show W0.heap.size ≤ W3.heap.size by omega)).below hcur (Nat.le_refl _)) hcur.size rfl (by omega)).mono ?_); rintro e Wa ⟨sva, rfl, hra, hba⟩; rw [HP.out.1, HP.out.2.1]; rw [HP.out.2.2] at hra; obtain ⟨Aq, cq, rfl, _, _, _⟩ := hra.form; have hcur := hcur.trans (hba.mono hcur.size))
      | (go_simp; go_at_call 23; (with_reducible refine (sameM_same pr pc Ax Aq cx cq ps Wa (((Rx_3.out.sl_now.more (show W2.heap.size ≤ W3.heap.size by omega)).below hcur (Nat.le_refl _)).more hcur.size) hra.sl_now (by omega)).mono ?_); rintro e Wb ⟨rfl, hbb⟩; have hcur := hcur.trans (hbb.mono hcur.size))
      | fail)
  obtain ⟨W4, hWb⟩ : ∃ W, W = Wb := ⟨_, rfl⟩
  subst hWb
  clear HMK
  clear x30 x31 x32 x3lt x50 x51 x52 x5lt
  have s4 := hcur.size
  have K3_4 := Lib.hid (K3_3.out.below hcur (show W0.heap.size < W3.heap.size by omega))
  have K5_4 := Lib.hid (K5_3.out.below hcur (show W2.heap.size < W3.heap.size by omega))
  have Rm_4 := Lib.hid (Rm_3.out.below hcur (show W0.heap.size ≤ W3.heap.size by omega))
  have Rx_4 := Lib.hid (Rx_3.out.below hcur (show W2.heap.size ≤ W3.heap.size by omega))
  have HB_4 := Lib.hid (HB_3.out.trans (hcur.mono (show w.heap.size ≤ W3.heap.size by omega)))
  clear K3_3 K5_3 Rm_3 Rx_3 HB_3 hcur
  clear hra hba hbb
  by_cases hok : OkE r cc zs l
  · have hm := hok.1
    obtain ⟨rn, cn, ln, R, C, rfl, rfl, rfl, hRn, hCn, hR5, hC5, eR, eC, hpm, hsum, htm, t1, t2, t3⟩ := edg_yes hok
    rw [HP.out.1] at eR
    rw [HP.out.2.1] at eC
    rw [HP.out.2.2] at hpm hsum t3
    subst eR eC
    have HPR : Hid (∀ j, j < ps.length → 0 ≤ ps.getD j 0 ∧ ps.getD j 0 ≤ 4095) := hpm.2.2.2
    have HZR : Hid (∀ j, j < zs.length → 0 ≤ zs.getD j 0 ∧ zs.getD j 0 ≤ 4095) := hm.2.2.2
    have HSUM := Lib.hid hsum
    have HM := Lib.hid hm
    have HPM := Lib.hid hpm
    have HTM := Lib.hid htm
    have HT := Lib.hid (And.intro t1 (And.intro t2 t3))
    have hm1 := hm.1
    have hm2 := hm.2.1
    have hd5 := hok.2.1
    have hnz : ((R : Int) == 0) = false := by simp; omega
    have hw1 : (rn : Int) + 2 * (ln : Int) = (R : Int) := by omega
    have hw0 : IntKind.i64.wrap (R : Int) = (R : Int) := wrap_in (by omega) (by omega)
    have hw2 : IntKind.i64.wrap (2 * (ln : Int)) = 2 * (ln : Int) := wrap_in (by omega) (by omega)
    have hw3 : IntKind.i64.wrap ((rn : Int) + 2 * (ln : Int)) = (R : Int) := by rw [hw1]; exact hw0
    clear hok hm hpm hsum htm t1 t2 t3 hRn hCn
    obtain ⟨x30, x31, x32, _, _, _, x3lt⟩ := K3_4.out
    obtain ⟨x50, x51, x52, _, _, _, x5lt⟩ := K5_4.out
    go_wp2
    clear x30 x31 x32 x3lt x50 x51 x52 x5lt
    obtain ⟨x30, x31, x32, _, _, _, x3lt⟩ := K3_4.out
    obtain ⟨x50, x51, x52, _, _, _, x5lt⟩ := K5_4.out
    go_loop [6, 8] (fun a i => ∃ k : Nat, k ≤ zs.length ∧ a = .int .i64 (rsum zs k) ∧ i = .int .i64 k) (fun _ i => zs.length - (intOf i).toNat)
    case atStart => exact ⟨0, Nat.zero_le _, rfl, rfl⟩
    case round =>
      obtain ⟨k, hk, rfl, rfl⟩ := hrel
      by_cases hlt : k < zs.length
      · obtain ⟨g, hA, _, _, hce, hfr⟩ := Rm_4.out.cell_ (j := k) hlt
        have hrng := rsum_range zs k
        have hel : 0 ≤ zs.getD k 0 ∧ zs.getD k 0 ≤ 4095 := HZR.out k hlt
        have HR := Lib.hid (show rsum zs (k + 1) = (rsum zs k + zs.getD k 0) % 4096 from rfl)
        obtain ⟨z, hz⟩ : ∃ z, zs.getD k 0 = z := ⟨_, rfl⟩
        obtain ⟨q, hq⟩ : ∃ q, rsum zs k = q := ⟨_, rfl⟩
        rw [hz] at hce hel HR
        rw [hq] at hrng HR
        simp only [hq]
        clear hz hq
        subst hA
        go_wp2_with fail
        refine (stepAdd q z _ hrng hel).mono ?_
        rintro e w' ⟨rfl, rfl⟩
        go_wp2
        go_round
        case rel => exact ⟨k + 1, by omega, by rw [HR.out]; rfl, by go_num⟩
        case measure => simp [intOf]; omega
      · have hke : k = zs.length := by omega
        subst hke
        go_wp2
        clear x30 x31 x32 x3lt x50 x51 x52 x5lt
        obtain ⟨q, hq⟩ : ∃ q, rsum zs zs.length = q := ⟨_, rfl⟩
        rw [hq] at HSUM ⊢
        clear hq
        obtain ⟨x30, x31, x32, _, _, _, x3lt⟩ := K3_4.out
        obtain ⟨x50, x51, x52, _, _, _, x5lt⟩ := K5_4.out
        go_loop [7, 9] (fun a i => ∃ k : Nat, k ≤ ps.length ∧ a = .int .i64 (rsum ps k) ∧ i = .int .i64 k) (fun _ i => ps.length - (intOf i).toNat)
        case atStart => exact ⟨0, Nat.zero_le _, rfl, rfl⟩
        case round =>
          obtain ⟨k, hk, rfl, rfl⟩ := hrel
          by_cases hlt : k < ps.length
          · obtain ⟨g, hA, _, _, hce, hfr⟩ := Rx_4.out.cell_ (j := k) hlt
            have hrng := rsum_range ps k
            have hel : 0 ≤ ps.getD k 0 ∧ ps.getD k 0 ≤ 4095 := HPR.out k hlt
            have HR := Lib.hid (show rsum ps (k + 1) = (rsum ps k + ps.getD k 0) % 4096 from rfl)
            obtain ⟨z, hz⟩ : ∃ z, ps.getD k 0 = z := ⟨_, rfl⟩
            obtain ⟨q, hq⟩ : ∃ q, rsum ps k = q := ⟨_, rfl⟩
            rw [hz] at hce hel HR
            rw [hq] at hrng HR
            simp only [hq]
            clear hz hq
            subst hA
            go_wp2_with fail
            refine (stepAdd q z _ hrng hel).mono ?_
            rintro e w' ⟨rfl, rfl⟩
            go_wp2
            go_round
            case rel => exact ⟨k + 1, by omega, by rw [HR.out]; rfl, by go_num⟩
            case measure => simp [intOf]; omega
          · have hke : k = ps.length := by omega
            subst hke
            rw [HSUM.out]
            obtain ⟨x30, x31, x32, _, _, _, x3lt⟩ := K3_4.out
            obtain ⟨x50, x51, x52, _, _, _, x5lt⟩ := K5_4.out
            have HMK := Lib.hid fun w' (hx : Below W4.heap.size W4 w') => (show (w'.cell? ⟨W0.heap.size, 0, none⟩ = some (.int .i64 (rn)) ∧ w'.cell? ⟨W0.heap.size, 1, none⟩ = some (.int .i64 (cn)) ∧ w'.cell? ⟨W0.heap.size, 2, none⟩ = some (.slice Am zs.length cm)) ∧ (w'.cell? ⟨W2.heap.size, 0, none⟩ = some (.int .i64 (R)) ∧ w'.cell? ⟨W2.heap.size, 1, none⟩ = some (.int .i64 (C)) ∧ w'.cell? ⟨W2.heap.size, 2, none⟩ = some (.slice Ax ps.length cx)) from ⟨⟨(K3_4.out.below hx (show _ < W4.heap.size by omega)).c0, (K3_4.out.below hx (show _ < W4.heap.size by omega)).c1, (K3_4.out.below hx (show _ < W4.heap.size by omega)).c2⟩, ⟨(K5_4.out.below hx (show _ < W4.heap.size by omega)).c0, (K5_4.out.below hx (show _ < W4.heap.size by omega)).c1, (K5_4.out.below hx (show _ < W4.heap.size by omega)).c2⟩⟩)
            have hcur : Below W4.heap.size W4 W4.drew := Below.of_drew _
            go_wp2
            go_region_held3 (fun w' => (w'.cell? ⟨W0.heap.size, 0, none⟩ = some (.int .i64 (rn)) ∧ w'.cell? ⟨W0.heap.size, 1, none⟩ = some (.int .i64 (cn)) ∧ w'.cell? ⟨W0.heap.size, 2, none⟩ = some (.slice Am zs.length cm)) ∧ (w'.cell? ⟨W2.heap.size, 0, none⟩ = some (.int .i64 (R)) ∧ w'.cell? ⟨W2.heap.size, 1, none⟩ = some (.int .i64 (C)) ∧ w'.cell? ⟨W2.heap.size, 2, none⟩ = some (.slice Ax ps.length cx)))
              (first | exact HMK.out _ hcur | exact HMK.out _ (hcur.alloc hcur.size _) | fail)
              (first
                | (go_simp; go_at_call 52; (with_reducible refine (implTurn_yes R C Ax cx _ W4.heap.size ps W4.drew ((Rx_4.out.sl_now.more (show W2.heap.size ≤ W4.heap.size by omega)).below hcur (Nat.le_refl _)) hcur.size rfl HCPx.out.1 HCPx.out.2 HPM.out).mono ?_); rintro e Wa ⟨sva, rfl, hra, hba⟩; obtain ⟨Aa, ca, rfl, ha1, ha2, _⟩ := hra.form; have hcur := hcur.trans (hba.mono hcur.size))
                | (go_simp; go_at_call 52; (with_reducible refine (implTurn_yes rn cn Am cm _ W4.heap.size zs Wa ((Rm_4.out.sl_now.more (show W0.heap.size ≤ W4.heap.size by omega)).below hcur (Nat.le_refl _)) hcur.size rfl HCPm.out.1 HCPm.out.2 HM.out).mono ?_); rintro e Wb ⟨svb, rfl, hrb, hbb⟩; obtain ⟨Ab, cb, rfl, hb1, hb2, _⟩ := hrb.form; have hsa := (hra.sl_now.below hbb (Nat.le_refl _)).more hbb.size; have hcur := hcur.trans (hbb.mono hcur.size))
                | (go_simp; go_at_call 50; (with_reducible refine (implEdge_any cn rn ln Ab cb _ Wb.heap.size (turnZ rn cn zs) Wb hrb.sl_now (Nat.le_refl _) rfl (by have := HTM.out.len; omega) hb1 hb2).mono ?_); rintro e Wc ⟨svc, rfl, hrc, hbc⟩; rw [HT.out.1, HT.out.2.1]; rw [HT.out.2.2] at hrc; obtain ⟨Ac, cc2, rfl, _, _, _⟩ := hrc.form; have hsa := (hsa.below hbc (Nat.le_refl _)).more hbc.size; have hcur := hcur.trans (hbc.mono hcur.size))
                | (go_simp; go_at_call 23; (with_reducible refine (sameM_same C R Aa Ac ca cc2 (turnZ R C ps) Wc hsa hrc.sl_now (by rw [turnZ_len]; exact Nat.le_trans (Nat.mul_le_mul hC5.2 hR5.2) (by omega))).mono ?_); rintro e Wd ⟨rfl, hbd⟩; have hcur := hcur.trans (hbd.mono hcur.size))
                | fail)
            go_wp2
            go_ret
            exact ⟨rfl, HB_4.out.trans (hcur.mono HB_4.out.size)⟩
  · have e1 : pr = 0 := by rw [← HP.out.1]; unfold edgR; rw [if_neg hok]
    have e2 : ps = [] := by rw [← HP.out.2.2]; unfold edgZ; rw [if_neg hok]
    subst e1 e2
    obtain ⟨x30, x31, x32, _, _, _, x3lt⟩ := K3_4.out
    obtain ⟨x50, x51, x52, _, _, _, x5lt⟩ := K5_4.out
    go_wp2_with fail
    refine (alive_any _).mono ?_
    rintro e w' ⟨rfl, rfl⟩
    go_wp2
    go_ret
    exact ⟨rfl, HB_4.out⟩
end Go.Proofs.Ytakjmdjjpalaiaa
