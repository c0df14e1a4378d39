/- The walk of the law FnOrderRows. (Printed by gen_LawP.py.) -/
import Derived.Test.YtilmglockldddaaLawD2
import Derived.Test.YtilmglockldddaaDrawM3
import Derived.Deep.RegionHeld3
namespace Go.Proofs.Ytilmglockldddaa
open Go.RowKit
theorem ord_yes {r c : Int} {zs os : List Int} (h : OkR r c zs os) : r = ordR r c zs os ∧ c = ordC r c zs os ∧ OkM r c (ordZ r c zs os) ∧ OkO os ∧ (∀ k, k < os.length → os.getD k 0 = (oix os k : Int) ∧ oix os k < os.length) ∧
    ordR r c (ordZ r c zs os) (backTo os os.length) = r ∧ ordC r c (ordZ r c zs os) (backTo os os.length) = c ∧ ordZ r c (ordZ r c zs os) (backTo os os.length) = zs := by
  obtain ⟨hm, ho, hl⟩ := id h
  have hZ : ordZ r c zs os = orderZ r.toNat c.toNat zs os := by unfold ordZ; rw [if_pos h]
  have h1 := hm.1
  have h2 := hm.2.1
  obtain ⟨rn, rfl⟩ := Int.eq_ofNat_of_zero_le (show 0 ≤ r by omega)
  obtain ⟨cn, rfl⟩ := Int.eq_ofNat_of_zero_le (show 0 ≤ c by omega)
  have hol : os.length = rn := by omega
  have hzl : zs.length = rn * cn := by
    have h3 := hm.2.2.1
    have e : ((rn * cn : Nat) : Int) = (rn : Int) * (cn : Int) := by simp
    omega
  simp only [Int.toNat_natCast] at hZ
  have hM : OkM rn cn (ordZ rn cn zs os) := by
    rw [hZ]
    refine ⟨h1, h2, by rw [orderZ_len]; simp, fun j hj => ?_⟩
    exact tab_rng (f := orderF cn zs os) (fun a b _ _ => getD_rng hm.2.2.2 _) j hj
  have hB : OkR rn cn (ordZ rn cn zs os) (backTo os os.length) := ⟨hM, back_ok ho, by rw [backTo_len]; exact hl⟩
  refine ⟨by unfold ordR; rw [if_pos h], by unfold ordC; rw [if_pos h], hM, ho, fun k hk => ho.ix hk, by unfold ordR; rw [if_pos hB], by unfold ordC; rw [if_pos hB], ?_⟩
  unfold ordZ
  rw [if_pos (by rw [← ordZ]; exact hB), if_pos h]
  simp only [Int.toNat_natCast]
  exact order_back ho hol hzl
theorem Row.sl_at {w : World} {lo hi n c : Nat} {A : Option Addr} {zs : List Int} (h : Row w lo hi (.slice A n c) zs) : Sl w hi A zs := h.sl_of.2
set_option maxRecDepth 20000 in
set_option maxHeartbeats 3200000 in
theorem law_FnOrderRows (w : World) (A : Option Addr) (n c : Nat) (h0 : Code8 w A n ∧ n ≤ c ∧ c ≤ maxLen) :
    Calls Try.prog 6 #[.slice A n c] w fun e w' => e = .returned (.bool true) ∧ Below w.heap.size w w' := by
  obtain ⟨hc, hnc, hcm⟩ := h0
  have hcm' := hcm
  unfold maxLen at hcm'
  by_cases hn : 1048576 < n
  · go_enter Try.func6, Try.ntmps6
    go_wp2
    go_ret
    exact ⟨rfl, Below.refl _ _⟩
  have hd1 : decide ((1048576 : Int) < (n : Int)) = false := by simp; omega
  go_enter Try.func6, Try.ntmps6
  go_wp2_with fail
  refine (drawOrder A n c w (by omega) hnc hcm hc).mono ?_
  rintro e W0 ⟨r, cc, sm, zs, Ao, m8, co, os, rfl, hr, ⟨zl, r0, r1, c0, c1⟩, rfl, hoc, hocm, hso, hm8, hb⟩
  obtain ⟨Am, cm, rfl, hcp1, hcp2, _⟩ := hr.form
  have HCPm := Lib.hid (And.intro hcp1 hcp2)
  clear hcp1 hcp2
  have s0 := hb.size
  have Rm_0 := Lib.hid hr
  have So_0 := Lib.hid hso
  have HB_0 := Lib.hid hb
  clear hr hb hc hso
  unfold maxLen at hocm
  obtain ⟨pr, hpr⟩ : ∃ x, ordR r cc zs os = x := ⟨_, rfl⟩
  obtain ⟨pc, hpc⟩ : ∃ x, ordC r cc zs os = x := ⟨_, rfl⟩
  obtain ⟨ps, hps⟩ : ∃ x, ordZ r cc zs os = x := ⟨_, rfl⟩
  have hpl := ordZ_len r cc zs os (by omega) (by omega)
  rw [hps] at hpl
  have HP := Lib.hid (And.intro hpr (And.intro hpc hps))
  clear hpr hpc hps
  have kn := Cell3.new W0 (.int .i64 r) (.int .i64 cc) (.slice Am zs.length cm) 33
  obtain ⟨W1, hW1⟩ : ∃ W, W0.alloc (.cells #[.int .i64 r, .int .i64 cc, .slice Am zs.length cm] 33) = W := ⟨_, rfl⟩
  rw [hW1] at kn
  have z1 : W1.heap.size = W0.heap.size + 1 := by rw [← hW1]; simp
  have hal : Below W0.heap.size W0 W1 := hW1 ▸ (Below.refl _ _).alloc (Nat.le_refl _) _
  have So_1 := Lib.hid (So_0.out.below hal (show W0.heap.size ≤ W0.heap.size by have := hal.size; omega))
  clear So_0
  have s1 := hal.size
  have Rm_1 := Lib.hid (Rm_0.out.below hal (show W0.heap.size ≤ W0.heap.size by omega))
  have HB_1 := Lib.hid (HB_0.out.trans (hal.mono (show w.heap.size ≤ W0.heap.size by omega)))
  clear Rm_0 HB_0 hal
  have K3_1 := Lib.hid kn
  clear kn
  obtain ⟨x30, x31, x32, _, _, _, x3lt⟩ := K3_1.out
  go_wp2_with fail
  refine (implOrd_any r cc Am cm _ W1.heap.size zs Ao co _ W0.heap.size os W1 (Rm_1.out.sl_now.more (show W0.heap.size ≤ W1.heap.size by omega)) (Nat.le_refl _) rfl (by omega) So_1.out (by omega) rfl (by omega) HCPm.out.1 HCPm.out.2).mono ?_
  rintro e W2 ⟨sv2, rfl, hr, hb⟩
  rw [HP.out.1, HP.out.2.1]
  rw [HP.out.2.2] at hr
  obtain ⟨Ax, cx, rfl, hcp1, hcp2, _⟩ := hr.form
  have HCPx := Lib.hid (And.intro hcp1 hcp2)
  clear hcp1 hcp2
  have So_2 := Lib.hid (So_1.out.below hb (show W0.heap.size ≤ W1.heap.size by have := hb.size; omega))
  clear So_1
  clear x30 x31 x32 x3lt
  have s2 := hb.size
  have K3_2 := Lib.hid (K3_1.out.below hb (show W0.heap.size < W1.heap.size by omega))
  have Rm_2 := Lib.hid (Rm_1.out.below hb (show W0.heap.size ≤ W1.heap.size by omega))
  have HB_2 := Lib.hid (HB_1.out.trans (hb.mono (show w.heap.size ≤ W1.heap.size by omega)))
  clear K3_1 Rm_1 HB_1 hb
  have Rx_2 := Lib.hid hr
  clear hr
  have kn := Cell3.new W2 (.int .i64 pr) (.int .i64 pc) (.slice Ax ps.length cx) 33
  obtain ⟨W3, hW3⟩ : ∃ W, W2.alloc (.cells #[.int .i64 pr, .int .i64 pc, .slice Ax ps.length cx] 33) = W := ⟨_, rfl⟩
  rw [hW3] at kn
  have z3 : W3.heap.size = W2.heap.size + 1 := by rw [← hW3]; simp
  have hal : Below W2.heap.size W2 W3 := hW3 ▸ (Below.refl _ _).alloc (Nat.le_refl _) _
  have So_3 := Lib.hid (So_2.out.below hal (show W0.heap.size ≤ W2.heap.size by have := hal.size; omega))
  clear So_2
  have s3 := hal.size
  have K3_3 := Lib.hid (K3_2.out.below hal (show W0.heap.size < W2.heap.size by omega))
  have Rm_3 := Lib.hid (Rm_2.out.below hal (show W0.heap.size ≤ W2.heap.size by omega))
  have Rx_3 := Lib.hid (Rx_2.out.below hal (show W2.heap.size ≤ W2.heap.size by omega))
  have HB_3 := Lib.hid (HB_2.out.trans (hal.mono (show w.heap.size ≤ W2.heap.size by omega)))
  clear K3_2 Rm_2 Rx_2 HB_2 hal
  have K5_3 := Lib.hid kn
  clear kn
  obtain ⟨x30, x31, x32, _, _, _, x3lt⟩ := K3_3.out
  obtain ⟨x50, x51, x52, _, _, _, x5lt⟩ := K5_3.out
  have HMK := Lib.hid fun w' (hx : Below W3.heap.size W3 w') => (show (w'.cell? ⟨W0.heap.size, 0, none⟩ = some (.int .i64 (r)) ∧ w'.cell? ⟨W0.heap.size, 1, none⟩ = some (.int .i64 (cc)) ∧ w'.cell? ⟨W0.heap.size, 2, none⟩ = some (.slice Am zs.length cm)) ∧ (w'.cell? ⟨W2.heap.size, 0, none⟩ = some (.int .i64 (pr)) ∧ w'.cell? ⟨W2.heap.size, 1, none⟩ = some (.int .i64 (pc)) ∧ w'.cell? ⟨W2.heap.size, 2, none⟩ = some (.slice Ax ps.length cx)) from ⟨⟨(K3_3.out.below hx (show _ < W3.heap.size by omega)).c0, (K3_3.out.below hx (show _ < W3.heap.size by omega)).c1, (K3_3.out.below hx (show _ < W3.heap.size by omega)).c2⟩, ⟨(K5_3.out.below hx (show _ < W3.heap.size by omega)).c0, (K5_3.out.below hx (show _ < W3.heap.size by omega)).c1, (K5_3.out.below hx (show _ < W3.heap.size by omega)).c2⟩⟩)
  have hcur : Below W3.heap.size W3 W3.drew := Below.of_drew _
  go_wp2
  go_region_held3 (fun w' => (w'.cell? ⟨W0.heap.size, 0, none⟩ = some (.int .i64 (r)) ∧ w'.cell? ⟨W0.heap.size, 1, none⟩ = some (.int .i64 (cc)) ∧ w'.cell? ⟨W0.heap.size, 2, none⟩ = some (.slice Am zs.length cm)) ∧ (w'.cell? ⟨W2.heap.size, 0, none⟩ = some (.int .i64 (pr)) ∧ w'.cell? ⟨W2.heap.size, 1, none⟩ = some (.int .i64 (pc)) ∧ w'.cell? ⟨W2.heap.size, 2, none⟩ = some (.slice Ax ps.length cx)))
    (first | exact HMK.out _ hcur | exact HMK.out _ (hcur.alloc hcur.size _) | fail)
    (first
      | (go_simp; go_at_call 16; (with_reducible refine (specOrd_any r cc Am cm _ W3.heap.size zs Ao co _ W0.heap.size os W3.drew ((Rm_3.out.sl_now.more (show W0.heap.size ≤ W3.heap.size by omega)).below hcur (Nat.le_refl _)) hcur.size rfl (by omega) (So_3.out.below hcur (by omega)) (Nat.le_trans (show W0.heap.size ≤ W3.heap.size by omega) hcur.size) rfl (by omega)).mono ?_); rintro e Wa ⟨sva, rfl, hra, hba⟩; rw [HP.out.1, HP.out.2.1]; rw [HP.out.2.2] at hra; obtain ⟨Aq, cq, rfl, _, _, _⟩ := hra.form; have hcur := hcur.trans (hba.mono hcur.size))
      | (go_simp; go_at_call 24; (with_reducible refine (sameM_same pr pc Ax Aq cx cq ps Wa (((Rx_3.out.sl_now.more (show W2.heap.size ≤ W3.heap.size by omega)).below hcur (Nat.le_refl _)).more hcur.size) hra.sl_now (by omega)).mono ?_); rintro e Wb ⟨rfl, hbb⟩; have hcur := hcur.trans (hbb.mono hcur.size))
      | fail)
  obtain ⟨W4, hWb⟩ : ∃ W, W = Wb := ⟨_, rfl⟩
  subst hWb
  clear HMK
  have So_4 := Lib.hid (So_3.out.below hcur (show W0.heap.size ≤ W3.heap.size by have := hcur.size; omega))
  clear So_3
  clear x30 x31 x32 x3lt x50 x51 x52 x5lt
  have s4 := hcur.size
  have K3_4 := Lib.hid (K3_3.out.below hcur (show W0.heap.size < W3.heap.size by omega))
  have K5_4 := Lib.hid (K5_3.out.below hcur (show W2.heap.size < W3.heap.size by omega))
  have Rm_4 := Lib.hid (Rm_3.out.below hcur (show W0.heap.size ≤ W3.heap.size by omega))
  have Rx_4 := Lib.hid (Rx_3.out.below hcur (show W2.heap.size ≤ W3.heap.size by omega))
  have HB_4 := Lib.hid (HB_3.out.trans (hcur.mono (show w.heap.size ≤ W3.heap.size by omega)))
  clear K3_3 K5_3 Rm_3 Rx_3 HB_3 hcur
  clear hra hba hbb
  by_cases hok : OkR r cc zs os
  · obtain ⟨eR, eC, hpm, hoo, hix, b1, b2, b3⟩ := ord_yes hok
    rw [HP.out.1] at eR
    rw [HP.out.2.1] at eC
    rw [HP.out.2.2] at hpm b1 b2 b3
    subst eR eC
    have hol : (1 : Int) ≤ r := hpm.1.1
    have hon := hoo.1
    have HPM := Lib.hid hpm
    have HIX := Lib.hid hix
    have HBK := Lib.hid (And.intro b1 (And.intro b2 b3))
    have hnz : (r == 0) = false := by simp; omega
    clear hok hpm hoo hix b1 b2 b3
    have hmk := run_make_row' (P := Try.prog) 22 3 (.int .i64 0) 8 Try.underlying22 info_int rfl .i64 .i64 os.length (by omega) (by omega)
    have rb := made_rowM W4 os.length (by omega)
    obtain ⟨W5, hW5⟩ : ∃ W, W4.alloc (.cells (madeCells #[Value.int .i64 0] os.length) 3) = W := ⟨_, rfl⟩
    have z5 : W5.heap.size = W4.heap.size + 1 := by rw [← hW5]; simp
    rw [hW5, ← z5] at rb
    have hal : Below W4.heap.size W4 W5 := hW5 ▸ (Below.refl _ _).alloc (Nat.le_refl _) _
    obtain ⟨x30, x31, x32, _, _, _, x3lt⟩ := K3_4.out
    obtain ⟨x50, x51, x52, _, _, _, x5lt⟩ := K5_4.out
    go_wp2
    have HAL := Lib.hid hal
    have RB := Lib.hid rb
    clear rb hal hmk x30 x31 x32 x3lt x50 x51 x52 x5lt
    go_loopw [7] (fun i wr => ∃ k : Nat, k ≤ os.length ∧ i = .int .i64 k ∧ Row wr W4.heap.size W5.heap.size (.slice (some ⟨W4.heap.size, 0, none⟩) os.length os.length) (backTo os k) ∧ Below W4.heap.size W4 wr ∧ W5.heap.size ≤ wr.heap.size) (fun i _ => os.length - (intOf i).toNat)
    case atStart => exact ⟨0, Nat.zero_le _, rfl, RB.out, HAL.out, Nat.le_refl _⟩
    case round =>
      obtain ⟨k, hk, rfl, hrow, hbl, hsz⟩ := hrel
      by_cases hlt : k < os.length
      · have hwo : W0.heap.size ≤ W4.heap.size := by omega
        obtain ⟨bo, offo, hAo, hbo, hco⟩ := (So_4.out.below hbl hwo).at_ hlt
        subst hAo
        obtain ⟨e1, e2⟩ := HIX.out k hlt
        rw [e1] at hco
        obtain ⟨m, hm⟩ : ∃ m, oix os k = m := ⟨_, rfl⟩
        rw [hm] at hco e2
        have HMI := Lib.hid hm
        clear e1 hm
        obtain ⟨g, hg, hg1, hg2, hcg, hfz⟩ := hrow.cell_ (j := m) (by rw [backTo_len]; exact e2)
        injection hg with hg
        injection hg with hg
        subst hg
        have S := Lib.hid (hrow.stored m (k : Int))
        have HBL := Lib.hid hbl
        have hmi : (m : Int) < (os.length : Int) := by omega
        clear hrow hbl
        go_wp2
        go_roundw
        case rel => exact ⟨k + 1, by omega, by go_num, by unfold backTo; rw [HMI.out]; exact S.out.1, HBL.out.setCell (p := ⟨W4.heap.size, m, none⟩) (Nat.le_refl _) _, by simpa using hsz⟩
        case measure => simp [intOf]; omega
      · have hke : k = os.length := by omega
        subst hke
        obtain ⟨W6, hWb⟩ : ∃ W, W = wr := ⟨_, rfl⟩
        subst hWb
        clear HAL RB
        have Rb_6 := Lib.hid hrow
        clear hrow
        have So_6 := Lib.hid (So_4.out.below hbl (show W0.heap.size ≤ W4.heap.size by have := hbl.size; omega))
        clear So_4
        have s6 := hbl.size
        have K3_6 := Lib.hid (K3_4.out.below hbl (show W0.heap.size < W4.heap.size by omega))
        have K5_6 := Lib.hid (K5_4.out.below hbl (show W2.heap.size < W4.heap.size by omega))
        have Rm_6 := Lib.hid (Rm_4.out.below hbl (show W0.heap.size ≤ W4.heap.size by omega))
        have Rx_6 := Lib.hid (Rx_4.out.below hbl (show W2.heap.size ≤ W4.heap.size by omega))
        have HB_6 := Lib.hid (HB_4.out.trans (hbl.mono (show w.heap.size ≤ W4.heap.size by omega)))
        clear K3_4 K5_4 Rm_4 Rx_4 HB_4 hbl
        obtain ⟨x30, x31, x32, _, _, _, x3lt⟩ := K3_6.out
        obtain ⟨x50, x51, x52, _, _, _, x5lt⟩ := K5_6.out
        have HMK := Lib.hid fun w' (hx : Below W6.heap.size W6 w') => (show (w'.cell? ⟨W0.heap.size, 0, none⟩ = some (.int .i64 (r)) ∧ w'.cell? ⟨W0.heap.size, 1, none⟩ = some (.int .i64 (cc)) ∧ w'.cell? ⟨W0.heap.size, 2, none⟩ = some (.slice Am zs.length cm)) ∧ (w'.cell? ⟨W2.heap.size, 0, none⟩ = some (.int .i64 (r)) ∧ w'.cell? ⟨W2.heap.size, 1, none⟩ = some (.int .i64 (cc)) ∧ w'.cell? ⟨W2.heap.size, 2, none⟩ = some (.slice Ax ps.length cx)) from ⟨⟨(K3_6.out.below hx (show _ < W6.heap.size by omega)).c0, (K3_6.out.below hx (show _ < W6.heap.size by omega)).c1, (K3_6.out.below hx (show _ < W6.heap.size by omega)).c2⟩, ⟨(K5_6.out.below hx (show _ < W6.heap.size by omega)).c0, (K5_6.out.below hx (show _ < W6.heap.size by omega)).c1, (K5_6.out.below hx (show _ < W6.heap.size by omega)).c2⟩⟩)
        have hcur : Below W6.heap.size W6 W6.drew := Below.of_drew _
        go_wp2
        go_region_held3 (fun w' => (w'.cell? ⟨W0.heap.size, 0, none⟩ = some (.int .i64 (r)) ∧ w'.cell? ⟨W0.heap.size, 1, none⟩ = some (.int .i64 (cc)) ∧ w'.cell? ⟨W0.heap.size, 2, none⟩ = some (.slice Am zs.length cm)) ∧ (w'.cell? ⟨W2.heap.size, 0, none⟩ = some (.int .i64 (r)) ∧ w'.cell? ⟨W2.heap.size, 1, none⟩ = some (.int .i64 (cc)) ∧ w'.cell? ⟨W2.heap.size, 2, none⟩ = some (.slice Ax ps.length cx)))
          (first | exact HMK.out _ hcur | exact HMK.out _ (hcur.alloc hcur.size _) | fail)
          (first
            | (go_simp; go_at_call 25; (with_reducible refine (implMV_yes r cc Ax cx _ W6.heap.size ps W6.drew ((Rx_6.out.sl_now.more (show W2.heap.size ≤ W6.heap.size by omega)).below hcur (Nat.le_refl _)) hcur.size rfl (by omega) HPM.out).mono ?_); rintro e Wa ⟨rfl, hba⟩; have hcur := hcur.trans (hba.mono hcur.size))
            | (go_simp; go_at_call 18; (with_reducible refine (implOrd_any r cc Ax cx _ W6.heap.size ps (some ⟨W4.heap.size, 0, none⟩) os.length os.length W6.heap.size (backTo os os.length) Wa ((Rx_6.out.sl_now.more (show W2.heap.size ≤ W6.heap.size by omega)).below hcur (Nat.le_refl _)) hcur.size rfl (by omega) ((Rb_6.out.sl_at.more (show W5.heap.size ≤ W6.heap.size by omega)).below hcur (Nat.le_refl _)) hcur.size (backTo_len _ _).symm (by omega) HCPx.out.1 HCPx.out.2).mono ?_); rintro e Wc ⟨svc, rfl, hrc, hbc⟩; rw [HBK.out.1, HBK.out.2.1]; rw [HBK.out.2.2] at hrc; obtain ⟨Ac, cc2, rfl, _, _, _⟩ := hrc.form; have hcur := hcur.trans (hbc.mono hcur.size))
            | (go_simp; go_at_call 24; (with_reducible refine (sameM_same r cc Ac Am cc2 cm zs Wc hrc.sl_now (((Rm_6.out.sl_now.more (show W0.heap.size ≤ W6.heap.size by omega)).below hcur (Nat.le_refl _)).more hcur.size) (by omega)).mono ?_); rintro e Wd ⟨rfl, hbd⟩; have hcur := hcur.trans (hbd.mono hcur.size))
            | fail)
        go_wp2
        go_ret
        exact ⟨rfl, HB_6.out.trans (hcur.mono HB_6.out.size)⟩
  · have e1 : pr = 0 := by rw [← HP.out.1]; unfold ordR; rw [if_neg hok]
    have e2 : ps = [] := by rw [← HP.out.2.2]; unfold ordZ; rw [if_neg hok]
    subst e1 e2
    obtain ⟨x30, x31, x32, _, _, _, x3lt⟩ := K3_4.out
    obtain ⟨x50, x51, x52, _, _, _, x5lt⟩ := K5_4.out
    go_wp2_with fail
    refine (alive_any _).mono ?_
    rintro e w' ⟨rfl, rfl⟩
    go_wp2
    go_ret
    exact ⟨rfl, HB_4.out⟩
end Go.Proofs.Ytilmglockldddaa
