/- The walk of the law FnTopPool. (Printed by gen_LawP.py.) -/
import Derived.Test.YtakjmdjjpalaiaaLawE3
import Derived.Test.YtakjmdjjpalaiaaDrawM2
import Derived.Deep.RegionHeld3
namespace Go.Proofs.Ytakjmdjjpalaiaa
open Go.RowKit
/-- What a pool of tops is. -/
theorem tpp_yes {r c l : Int} {zs : List Int} (h : OkB r c zs l) : ∃ p1 p2 : Nat, 1 ≤ p1 ∧ tppR r c l zs = (p1 : Int) ∧ tppC r c l zs = (p2 : Int) ∧ (∀ j, j < zs.length → 0 ≤ zs.getD j 0 ∧ zs.getD j 0 ≤ 4095) ∧ (∀ j, 0 ≤ (tppZ r c l zs).getD j 0 ∧ (tppZ r c l zs).getD j 0 ≤ 4095) ∧
    mxs (tppZ r c l zs) (tppZ r c l zs).length = mxs zs zs.length ∧ ∀ k, k < (tppZ r c l zs).length → ∃ i, i < zs.length ∧ zs.getD i 0 = (tppZ r c l zs).getD k 0 := by
  have hz := h.1.2.2.2
  have hR : tppR r c l zs = ((r.toNat / l.toNat : Nat) : Int) := by unfold tppR; rw [if_pos h]
  have hC : tppC r c l zs = ((c.toNat / l.toNat : Nat) : Int) := by unfold tppC; rw [if_pos h]
  have hZ : tppZ r c l zs = poolZ topF l.toNat (r.toNat / l.toNat) (c.toNat / l.toNat) zs := by unfold tppZ; rw [if_pos h]
  have hlen := h.1.2.2.1
  have hr5 := h.1.1
  have hc5 := h.1.2.1
  obtain ⟨rn, cn, ln, rfl, rfl, rfl, hl, hr, hc⟩ := h.nat
  rw [hR, hC, hZ]
  simp only [Int.toNat_natCast]
  obtain ⟨p1, hp1⟩ : ∃ p, rn / ln = p := ⟨_, rfl⟩
  obtain ⟨p2, hp2⟩ : ∃ p, cn / ln = p := ⟨_, rfl⟩
  rw [hp1] at hr
  rw [hp2] at hc
  rw [hp1, hp2]
  have q1 : 1 ≤ p1 := by cases p1 with | zero => simp at hr; omega | succ k => omega
  have q2 : 1 ≤ p2 := by cases p2 with | zero => simp at hc; omega | succ k => omega
  have hpl : (poolZ topF ln p1 p2 zs).length = p1 * p2 := by rw [poolZ, tab_len]
  have hzl : zs.length = p1 * ln * (p2 * ln) := by
    rw [hr, hc]
    have e : ((rn * cn : Nat) : Int) = (rn : Int) * (cn : Int) := by simp
    omega
  have hin : ∀ k, k < (poolZ topF ln p1 p2 zs).length → ∃ i, i < zs.length ∧ zs.getD i 0 = (poolZ topF ln p1 p2 zs).getD k 0 := by
    intro k hk
    rw [hpl] at hk
    have hA : k / p2 < p1 := (Nat.div_lt_iff_lt_mul q2).2 hk
    obtain ⟨i, hi, e⟩ := top_in ln p1 p2 zs hl.1 (k / p2) (k % p2) hA (Nat.mod_lt _ q2)
    refine ⟨i, by rw [hzl]; exact hi, ?_⟩
    rw [poolZ, tab_get _ _ _ _ hk, e]
  refine ⟨p1, p2, q1, rfl, rfl, hz, fun j => ?_, ?_, hin⟩
  · rcases Nat.lt_or_ge j (poolZ topF ln p1 p2 zs).length with h1 | h1
    · obtain ⟨i, hi, e⟩ := hin j h1
      rw [← e]
      exact hz i hi
    · have : (poolZ topF ln p1 p2 zs).getD j 0 = 0 := by rw [List.getD_eq_getElem?_getD, List.getElem?_eq_none h1]; rfl
      rw [this]; omega
  · rw [hpl, top_max ln p1 p2 zs hl.1 q2, ← hzl]
theorem mxs_rng (zs : List Int) (hz : ∀ j, j < zs.length → 0 ≤ zs.getD j 0 ∧ zs.getD j 0 ≤ 4095) (k : Nat) (hk : k ≤ zs.length) : -4096 ≤ mxs zs k ∧ mxs zs k ≤ 4095 :=
  ⟨mxs_low zs k, mxs_bound zs k 4095 (by omega) fun j hj => by have := hz j (by omega); unfold sgM; split <;> omega⟩
theorem mxs_rng' (zs : List Int) (hz : ∀ j, 0 ≤ zs.getD j 0 ∧ zs.getD j 0 ≤ 4095) (k : Nat) : -4096 ≤ mxs zs k ∧ mxs zs k ≤ 4095 :=
  ⟨mxs_low zs k, mxs_bound zs k 4095 (by omega) fun j _ => by have := hz j; unfold sgM; split <;> omega⟩
set_option maxRecDepth 20000 in
set_option maxHeartbeats 3200000 in
theorem law_FnTopPool (w : World) (A : Option Addr) (n c : Nat) (h0 : Code8 w A n ∧ n ≤ c ∧ c ≤ maxLen) :
    Calls Try.prog 6 #[.slice A n c] w fun e w' => e = .returned (.bool true) ∧ Below w.heap.size w w' := by
  obtain ⟨hc, hnc, hcm⟩ := h0
  have hcm' := hcm
  unfold maxLen at hcm'
  by_cases hn : 1048576 < n
  · go_enter Try.func6, Try.ntmps6
    go_wp2
    go_ret
    exact ⟨rfl, Below.refl _ _⟩
  have hd1 : decide ((1048576 : Int) < (n : Int)) = false := by simp; omega
  go_enter Try.func6, Try.ntmps6
  go_wp2_with fail
  refine (drawTop A n c w (by omega) hnc hcm hc).mono ?_
  rintro e W0 ⟨r, cc, sm, zs, l, rfl, hr, zl, r0, r1, c0, c1, l0, l1, hb⟩
  obtain ⟨Am, cm, rfl, hcp1, hcp2, _⟩ := hr.form
  have HCPm := Lib.hid (And.intro hcp1 hcp2)
  clear hcp1 hcp2
  have s0 := hb.size
  have Rm_0 := Lib.hid hr
  have HB_0 := Lib.hid hb
  clear hr hb hc
  obtain ⟨pr, hpr⟩ : ∃ x, tppR r cc l zs = x := ⟨_, rfl⟩
  obtain ⟨pc, hpc⟩ : ∃ x, tppC r cc l zs = x := ⟨_, rfl⟩
  obtain ⟨ps, hps⟩ : ∃ x, tppZ r cc l zs = x := ⟨_, rfl⟩
  have hpl := tppZ_len r cc l zs (by omega)
  rw [hps] at hpl
  have HP := Lib.hid (And.intro hpr (And.intro hpc hps))
  clear hpr hpc hps
  have kn := Cell3.new W0 (.int .i64 r) (.int .i64 cc) (.slice Am zs.length cm) 26
  obtain ⟨W1, hW1⟩ : ∃ W, W0.alloc (.cells #[.int .i64 r, .int .i64 cc, .slice Am zs.length cm] 26) = W := ⟨_, rfl⟩
  rw [hW1] at kn
  have z1 : W1.heap.size = W0.heap.size + 1 := by rw [← hW1]; simp
  have hal : Below W0.heap.size W0 W1 := hW1 ▸ (Below.refl _ _).alloc (Nat.le_refl _) _
  have s1 := hal.size
  have Rm_1 := Lib.hid (Rm_0.out.below hal (show W0.heap.size ≤ W0.heap.size by omega))
  have HB_1 := Lib.hid (HB_0.out.trans (hal.mono (show w.heap.size ≤ W0.heap.size by omega)))
  clear Rm_0 HB_0 hal
  have K3_1 := Lib.hid kn
  clear kn
  obtain ⟨x30, x31, x32, _, _, _, x3lt⟩ := K3_1.out
  go_wp2_with fail
  refine (implTop_any r cc l Am cm _ W1.heap.size zs W1 (Rm_1.out.sl_now.more (show W0.heap.size ≤ W1.heap.size by omega)) (Nat.le_refl _) rfl (by omega)).mono ?_
  rintro e W2 ⟨sv2, rfl, hr, hb⟩
  rw [HP.out.1, HP.out.2.1]
  rw [HP.out.2.2] at hr
  obtain ⟨Ax, cx, rfl, hcp1, hcp2, _⟩ := hr.form
  have HCPx := Lib.hid (And.intro hcp1 hcp2)
  clear hcp1 hcp2
  clear x30 x31 x32 x3lt
  have s2 := hb.size
  have K3_2 := Lib.hid (K3_1.out.below hb (show W0.heap.size < W1.heap.size by omega))
  have Rm_2 := Lib.hid (Rm_1.out.below hb (show W0.heap.size ≤ W1.heap.size by omega))
  have HB_2 := Lib.hid (HB_1.out.trans (hb.mono (show w.heap.size ≤ W1.heap.size by omega)))
  clear K3_1 Rm_1 HB_1 hb
  have Rx_2 := Lib.hid hr
  clear hr
  have kn := Cell3.new W2 (.int .i64 pr) (.int .i64 pc) (.slice Ax ps.length cx) 26
  obtain ⟨W3, hW3⟩ : ∃ W, W2.alloc (.cells #[.int .i64 pr, .int .i64 pc, .slice Ax ps.length cx] 26) = W := ⟨_, rfl⟩
  rw [hW3] at kn
  have z3 : W3.heap.size = W2.heap.size + 1 := by rw [← hW3]; simp
  have hal : Below W2.heap.size W2 W3 := hW3 ▸ (Below.refl _ _).alloc (Nat.le_refl _) _
  have s3 := hal.size
  have K3_3 := Lib.hid (K3_2.out.below hal (show W0.heap.size < W2.heap.size by omega))
  have Rm_3 := Lib.hid (Rm_2.out.below hal (show W0.heap.size ≤ W2.heap.size by omega))
  have Rx_3 := Lib.hid (Rx_2.out.below hal (show W2.heap.size ≤ W2.heap.size by omega))
  have HB_3 := Lib.hid (HB_2.out.trans (hal.mono (show w.heap.size ≤ W2.heap.size by omega)))
  clear K3_2 Rm_2 Rx_2 HB_2 hal
  have K5_3 := Lib.hid kn
  clear kn
  obtain ⟨x30, x31, x32, _, _, _, x3lt⟩ := K3_3.out
  obtain ⟨x50, x51, x52, _, _, _, x5lt⟩ := K5_3.out
  have HMK := Lib.hid fun w' (hx : Below W3.heap.size W3 w') => (show (w'.cell? ⟨W0.heap.size, 0, none⟩ = some (.int .i64 (r)) ∧ w'.cell? ⟨W0.heap.size, 1, none⟩ = some (.int .i64 (cc)) ∧ w'.cell? ⟨W0.heap.size, 2, none⟩ = some (.slice Am zs.length cm)) ∧ (w'.cell? ⟨W2.heap.size, 0, none⟩ = some (.int .i64 (pr)) ∧ w'.cell? ⟨W2.heap.size, 1, none⟩ = some (.int .i64 (pc)) ∧ w'.cell? ⟨W2.heap.size, 2, none⟩ = some (.slice Ax ps.length cx)) from ⟨⟨(K3_3.out.below hx (show _ < W3.heap.size by omega)).c0, (K3_3.out.below hx (show _ < W3.heap.size by omega)).c1, (K3_3.out.below hx (show _ < W3.heap.size by omega)).c2⟩, ⟨(K5_3.out.below hx (show _ < W3.heap.size by omega)).c0, (K5_3.out.below hx (show _ < W3.heap.size by omega)).c1, (K5_3.out.below hx (show _ < W3.heap.size by omega)).c2⟩⟩)
  have hcur : Below W3.heap.size W3 W3.drew := Below.of_drew _
  go_wp2
  go_region_held3 (fun w' => (w'.cell? ⟨W0.heap.size, 0, none⟩ = some (.int .i64 (r)) ∧ w'.cell? ⟨W0.heap.size, 1, none⟩ = some (.int .i64 (cc)) ∧ w'.cell? ⟨W0.heap.size, 2, none⟩ = some (.slice Am zs.length cm)) ∧ (w'.cell? ⟨W2.heap.size, 0, none⟩ = some (.int .i64 (pr)) ∧ w'.cell? ⟨W2.heap.size, 1, none⟩ = some (.int .i64 (pc)) ∧ w'.cell? ⟨W2.heap.size, 2, none⟩ = some (.slice Ax ps.length cx)))
    (first | exact HMK.out _ hcur | exact HMK.out _ (hcur.alloc hcur.size _) | fail)
    (first
      | (go_simp; go_at_call 26; (with_reducible refine (specTop_any r cc l Am cm _ W3.heap.size zs W3.drew ((Rm_3.out.sl_now.more (show W0.heap.size ≤ W3.heap.size by omega)).below hcur (Nat.le_refl _)) hcur.size rfl (by omega)).mono ?_); rintro e Wa ⟨sva, rfl, hra, hba⟩; rw [HP.out.1, HP.out.2.1]; rw [HP.out.2.2] at hra; obtain ⟨Aq, cq, rfl, _, _, _⟩ := hra.form; have hcur := hcur.trans (hba.mono hcur.size))
      | (go_simp; go_at_call 23; (with_reducible refine (sameM_same pr pc Ax Aq cx cq ps Wa (((Rx_3.out.sl_now.more (show W2.heap.size ≤ W3.heap.size by omega)).below hcur (Nat.le_refl _)).more hcur.size) hra.sl_now (by omega)).mono ?_); rintro e Wb ⟨rfl, hbb⟩; have hcur := hcur.trans (hbb.mono hcur.size))
      | fail)
  obtain ⟨W4, hWb⟩ : ∃ W, W = Wb := ⟨_, rfl⟩
  subst hWb
  clear HMK
  clear x30 x31 x32 x3lt x50 x51 x52 x5lt
  have s4 := hcur.size
  have K3_4 := Lib.hid (K3_3.out.below hcur (show W0.heap.size < W3.heap.size by omega))
  have K5_4 := Lib.hid (K5_3.out.below hcur (show W2.heap.size < W3.heap.size by omega))
  have Rm_4 := Lib.hid (Rm_3.out.below hcur (show W0.heap.size ≤ W3.heap.size by omega))
  have Rx_4 := Lib.hid (Rx_3.out.below hcur (show W2.heap.size ≤ W3.heap.size by omega))
  have HB_4 := Lib.hid (HB_3.out.trans (hcur.mono (show w.heap.size ≤ W3.heap.size by omega)))
  clear K3_3 K5_3 Rm_3 Rx_3 HB_3 hcur
  clear hra hba hbb
  by_cases hok : OkB r cc zs l
  · skip
    obtain ⟨p1, p2, hp1, eR, eC, hzr, hpr, hmx, hin⟩ := tpp_yes hok
    rw [HP.out.1] at eR
    rw [HP.out.2.1] at eC
    rw [HP.out.2.2] at hpr hmx hin
    subst eR eC
    have HPR := Lib.hid hpr
    have HZR := Lib.hid hzr
    have HMX := Lib.hid hmx
    have HIN := Lib.hid hin
    have hnz : ((p1 : Int) == 0) = false := by simp; omega
    clear hok hpr hzr hmx hin
    obtain ⟨x30, x31, x32, _, _, _, x3lt⟩ := K3_4.out
    obtain ⟨x50, x51, x52, _, _, _, x5lt⟩ := K5_4.out
    go_wp2
    go_loop [6, 7] (fun a i => ∃ k : Nat, k ≤ zs.length ∧ a = .int .i64 (mxs zs k) ∧ i = .int .i64 k) (fun _ i => zs.length - (intOf i).toNat)
    case atStart => exact ⟨0, Nat.zero_le _, rfl, rfl⟩
    case round =>
      obtain ⟨k, hk, rfl, rfl⟩ := hrel
      by_cases hlt : k < zs.length
      · obtain ⟨g, hA, _, _, hce, hfr⟩ := Rm_4.out.cell_ (j := k) hlt
        have hrng := mxs_rng zs HZR.out k hk
        have hel := HZR.out k hlt
        have HR := Lib.hid (show mxs zs (k + 1) = max (mxs zs k) (sgM (zs.getD k 0)) from rfl)
        obtain ⟨z, hz⟩ : ∃ z, zs.getD k 0 = z := ⟨_, rfl⟩
        obtain ⟨q, hq⟩ : ∃ q, mxs zs k = q := ⟨_, rfl⟩
        rw [hz] at hce hel HR
        rw [hq] at hrng HR
        simp only [hq]
        have hcall := Lib.hid fun wx => implSgn z wx hel.1 hel.2
        rw [sgM_sgn] at HR
        have hsb := sgn_bound hel.1 hel.2
        obtain ⟨s, hs⟩ : ∃ s, sgn z = s := ⟨_, rfl⟩
        rw [hs] at HR hcall hsb
        clear hz hq hs
        subst hA
        go_wp2_with fail
        refine (hcall.out _).mono ?_
        rintro e w' ⟨rfl, rfl⟩
        go_wp2
        go_round
        case rel => exact ⟨k + 1, by omega, by rw [HR.out]; first | rfl | (congr 1; omega), by go_num⟩
        case measure => simp [intOf]; omega
      · have hke : k = zs.length := by omega
        subst hke
        obtain ⟨q, hq⟩ : ∃ q, mxs zs zs.length = q := ⟨_, rfl⟩
        rw [hq] at HMX ⊢
        clear hq
        go_wp2
        clear x30 x31 x32 x3lt x50 x51 x52 x5lt
        go_loopw [8, 9, 10, 11] (fun b i _ _ wr => ∃ k : Nat, k ≤ ps.length ∧ b = .int .i64 (mxs ps k) ∧ i = .int .i64 k ∧ Drew W4 wr) (fun _ i _ _ _ => ps.length - (intOf i).toNat)
        case atStart => exact ⟨0, Nat.zero_le _, rfl, rfl, Drew.refl _⟩
        case round =>
          obtain ⟨k, hk, rfl, rfl, hd⟩ := hrel
          have hd0 := Lib.hid hd
          obtain ⟨x30, x31, x32, _, _, _, x3lt⟩ := K3_4.out.grown (hd.grown none) (by simp)
          obtain ⟨x50, x51, x52, _, _, _, x5lt⟩ := K5_4.out.grown (hd.grown none) (by simp)
          by_cases hlt : k < ps.length
          · obtain ⟨gx, hAx, _, _, hcx, _⟩ := Rx_4.out.cell_ (j := k) hlt
            subst hAx
            have hrng := mxs_rng' ps HPR.out k
            have hel := HPR.out k
            have HR := Lib.hid (show mxs ps (k + 1) = max (mxs ps k) (sgM (ps.getD k 0)) from rfl)
            have HINk := Lib.hid (HIN.out k hlt)
            obtain ⟨z, hz⟩ : ∃ z, ps.getD k 0 = z := ⟨_, rfl⟩
            obtain ⟨b, hb⟩ : ∃ b, mxs ps k = b := ⟨_, rfl⟩
            rw [hz] at hcx hel HR HINk
            rw [hb] at hrng HR
            simp only [hb]
            have hcall := Lib.hid fun wx => implSgn z wx hel.1 hel.2
            rw [sgM_sgn] at HR
            have hsb := sgn_bound hel.1 hel.2
            obtain ⟨s, hs⟩ : ∃ s, sgn z = s := ⟨_, rfl⟩
            rw [hs] at HR hcall hsb
            clear hz hb hs
            have hki : (k : Int) < (ps.length : Int) := by omega
            have HCX := Lib.hid hcx
            go_wp2
            clear x30 x31 x32 x3lt x50 x51 x52 x5lt hcx
            obtain ⟨wo, rfl⟩ : ∃ wo, wo = wr := ⟨_, rfl⟩
            go_loopw [10, 11] (fun f i wq => ∃ (j : Nat) (tb : Bool), j ≤ zs.length ∧ i = .int .i64 j ∧ f = .bool tb ∧ (tb = true ↔ ∃ i, i < j ∧ zs.getD i 0 = z) ∧ Drew W4 wq) (fun _ i _ => zs.length - (intOf i).toNat)
            case atStart => exact ⟨0, false, Nat.zero_le _, rfl, rfl, ⟨fun h => by simp at h, fun ⟨i, hi, _⟩ => absurd hi (by omega)⟩, hd0.out⟩
            case round =>
              clear hd hd0
              obtain ⟨j, tb, hj, rfl, rfl, htb, hd⟩ := hrel
              have HTB := Lib.hid htb
              clear htb
              obtain ⟨x30, x31, x32, _, _, _, x3lt⟩ := K3_4.out.grown (hd.grown none) (by simp)
              obtain ⟨x50, x51, x52, _, _, _, x5lt⟩ := K5_4.out.grown (hd.grown none) (by simp)
              have hcx := (hd.grown none).cell HCX.out (by simp)
              by_cases hjl : j < zs.length
              · obtain ⟨gm, hAm, _, _, hcm0, _⟩ := Rm_4.out.cell_ (j := j) hjl
                subst hAm
                have hcm := (hd.grown none).cell hcm0 (by simp)
                obtain ⟨y, hy⟩ : ∃ y, zs.getD j 0 = y := ⟨_, rfl⟩
                rw [hy] at hcm
                have HY := Lib.hid hy
                clear hy hcm0
                have hji : (j : Int) < (zs.length : Int) := by omega
                cases tb with
                | true =>
                  go_wp2
                  go_quiet (fail)
                  go_wp2
                  go_roundw
                  case rel => exact ⟨j + 1, true, by omega, by go_num, rfl, ⟨fun _ => by
                    obtain ⟨i, hi, h⟩ := HTB.out.1 (by first | trivial | rfl)
                    exact ⟨i, by omega, h⟩, fun _ => rfl⟩, hd.more _⟩
                  case measure => simp [intOf]; omega
                | false =>
                  go_wp2
                  go_quiet (fail)
                  go_wp2
                  go_roundw
                  case rel => exact ⟨j + 1, (y == z), by omega, by go_num, rfl, ⟨fun h => ⟨j, by omega, by rw [HY.out]; exact beq_iff_eq.1 h⟩, fun ⟨i, hi, h⟩ => by
                    by_cases e : i = j
                    · subst e; rw [HY.out] at h; exact beq_iff_eq.2 h
                    · exact absurd (HTB.out.2 ⟨i, by omega, h⟩) (by simp)⟩, hd.more _⟩
                  case measure => simp [intOf]; omega
              · have hje : j = zs.length := by omega
                subst hje
                obtain rfl : tb = true := HTB.out.2 HINk.out
                have hd1 := Lib.hid hd
                go_wp2_with fail
                refine (hcall.out _).mono ?_
                rintro e w' ⟨rfl, rfl⟩
                go_wp2
                go_roundw
                case rel => exact ⟨k + 1, by omega, by rw [HR.out]; first | rfl | (congr 1; omega), by go_num, hd1.out⟩
                case measure => simp [intOf]; omega
          · have hke : k = ps.length := by omega
            subst hke
            rw [HMX.out]
            go_wp2
            go_ret
            exact ⟨rfl, HB_4.out.trans (hd0.out.below _)⟩
  · have e1 : pr = 0 := by rw [← HP.out.1]; unfold tppR; rw [if_neg hok]
    have e2 : ps = [] := by rw [← HP.out.2.2]; unfold tppZ; rw [if_neg hok]
    subst e1 e2
    obtain ⟨x30, x31, x32, _, _, _, x3lt⟩ := K3_4.out
    obtain ⟨x50, x51, x52, _, _, _, x5lt⟩ := K5_4.out
    go_wp2_with fail
    refine (alive_any _).mono ?_
    rintro e w' ⟨rfl, rfl⟩
    go_wp2
    go_ret
    exact ⟨rfl, HB_4.out⟩
end Go.Proofs.Ytakjmdjjpalaiaa
