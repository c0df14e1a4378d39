/- The walk of the law FnPruneMatrix. (Printed by gen_LawP.py.) -/
import Derived.Test.YtdebnbgjnmoleaaLawF1
import Derived.Test.YtdebnbgjnmoleaaDrawM4
import Derived.Test.YtdebnbgjnmoleaaFnsH1
import Derived.Deep.RegionHeld3
namespace Go.Proofs.Ytdebnbgjnmoleaa
open Go.RowKit
theorem pruneF_zero (l : Int) : pruneF l 0 = 0 := by unfold pruneF; split <;> rfl
theorem pruneF_rng (l x : Int) (h : 0 ≤ x ∧ x ≤ 4095) : 0 ≤ pruneF l x ∧ pruneF l x ≤ 4095 := by unfold pruneF; split <;> omega
theorem pruneF_twice (l x : Int) : pruneF l (pruneF l x) = pruneF l x := by
  by_cases h : sgn x < l ∧ -sgn x < l
  · rw [show pruneF l x = 0 from if_pos h, pruneF_zero]
  · have e : pruneF l x = x := if_neg h
    rw [e, e]
theorem pruneF_0 (x : Int) : pruneF 0 x = x := if_neg (by omega)
theorem pruneF_1 (x : Int) (h : 0 ≤ x ∧ x ≤ 4095) : pruneF 1 x = x := by
  unfold pruneF
  split
  · next h1 => unfold sgn at h1; split at h1 <;> omega
  · rfl
theorem map_at (f : Int → Int) (zs : List Int) (k : Nat) (h0 : f 0 = 0) : (zs.map f).getD k 0 = f (zs.getD k 0) := by
  simp only [List.getD_eq_getElem?_getD, List.getElem?_map]
  cases zs[k]? with
  | none => simp [h0]
  | some v => rfl
theorem cellsTo_le (c : Nat) (l : Int) (zs : List Int) (k : Nat) : (cellsTo c (zs.map (pruneF l)) k).length ≤ (cellsTo c zs k).length := by
  induction k with
  | zero => exact Nat.le_refl _
  | succ k ih =>
    by_cases h : zs.getD k 0 = 0
    · rw [cellsTo_z h, cellsTo_z (by rw [map_at _ _ _ (pruneF_zero l), h, pruneF_zero])]
      exact ih
    · rw [cellsTo_nz h, List.length_append]
      by_cases h2 : (zs.map (pruneF l)).getD k 0 = 0
      · rw [cellsTo_z h2]; omega
      · rw [cellsTo_nz h2, List.length_append]
        simp only [List.length_cons, List.length_nil]
        omega
/-- What a pruned matrix is. -/
theorem prune_yes {r c l : Int} {zs : List Int} (h : OkP r c zs l) : r = pruneR r c l zs ∧ c = pruneC r c l zs ∧ 1 ≤ r ∧ (cOf r c (pruneZ r c l zs)).length ≤ (cOf r c zs).length ∧
    (pruneR r c l (pruneZ r c l zs) = r ∧ pruneC r c l (pruneZ r c l zs) = c ∧ pruneZ r c l (pruneZ r c l zs) = pruneZ r c l zs) ∧
    (pruneR r c 0 zs = r ∧ pruneC r c 0 zs = c ∧ pruneZ r c 0 zs = zs) ∧ pruneR r c 1 zs = r ∧ pruneC r c 1 zs = c ∧ pruneZ r c 1 zs = zs := by
  obtain ⟨hm, hl⟩ := id h
  obtain ⟨h1, h2, h3, h4⟩ := id hm
  have hZ : pruneZ r c l zs = zs.map (pruneF l) := by unfold pruneZ; rw [if_pos h]
  have hpm : OkM r c (zs.map (pruneF l)) := ⟨h1, h2, by rw [List.length_map]; exact h3, fun j hj => by
    rw [map_at _ _ _ (pruneF_zero l)]
    rw [List.length_map] at hj
    exact pruneF_rng _ _ (h4 j hj)⟩
  have hp2 : OkP r c (zs.map (pruneF l)) l := ⟨hpm, hl⟩
  have hp0 : OkP r c zs 0 := ⟨hm, by omega⟩
  have hp1 : OkP r c zs 1 := ⟨hm, by omega⟩
  have same : ∀ f : Int → Int, (∀ x, 0 ≤ x ∧ x ≤ 4095 → f x = x) → zs.map f = zs := fun f hf => by
    apply List.ext_getElem (by simp)
    intro j hj1 hj2
    have := h4 j hj2
    simp only [List.getElem_map]
    rw [List.getD_eq_getElem?_getD, List.getElem?_eq_getElem hj2] at this
    exact hf _ this
  rw [hZ]
  refine ⟨by unfold pruneR; rw [if_pos h], by unfold pruneC; rw [if_pos h], h1.1, ?_, ⟨by unfold pruneR; rw [if_pos hp2], by unfold pruneC; rw [if_pos hp2], ?_⟩, ⟨by unfold pruneR; rw [if_pos hp0], by unfold pruneC; rw [if_pos hp0], ?_⟩, by unfold pruneR; rw [if_pos hp1], by unfold pruneC; rw [if_pos hp1], ?_⟩
  · unfold cOf
    rw [if_pos hm, if_pos hpm, List.length_map]
    exact cellsTo_le _ _ _ _
  · unfold pruneZ
    rw [if_pos hp2, List.map_map]
    congr 1
    funext x
    exact pruneF_twice l x
  · unfold pruneZ
    rw [if_pos hp0]
    exact same _ fun x _ => pruneF_0 x
  · unfold pruneZ
    rw [if_pos hp1]
    exact same _ pruneF_1
set_option maxRecDepth 20000 in
set_option maxHeartbeats 3200000 in
theorem law_FnPruneMatrix (w : World) (A : Option Addr) (n c : Nat) (h0 : Code8 w A n ∧ n ≤ c ∧ c ≤ maxLen) :
    Calls Try.prog 10 #[.slice A n c] w fun e w' => e = .returned (.bool true) ∧ Below w.heap.size w w' := by
  obtain ⟨hc, hnc, hcm⟩ := h0
  have hcm' := hcm
  unfold maxLen at hcm'
  by_cases hn : 1048576 < n
  · go_enter Try.func10, Try.ntmps10
    go_wp2
    go_ret
    exact ⟨rfl, Below.refl _ _⟩
  have hd1 : decide ((1048576 : Int) < (n : Int)) = false := by simp; omega
  go_enter Try.func10, Try.ntmps10
  go_wp2_with fail
  refine (drawPrune A n c w (by omega) hnc hcm hc).mono ?_
  rintro e W0 ⟨r, cc, sm, zs, l, rfl, hr, zl, r0, r1, c0, c1, l0, l1, hb⟩
  obtain ⟨Am, cm, rfl, hcp1, hcp2, _⟩ := hr.form
  have HCPm := Lib.hid (And.intro hcp1 hcp2)
  clear hcp1 hcp2
  have s0 := hb.size
  have Rm_0 := Lib.hid hr
  have HB_0 := Lib.hid hb
  clear hr hb hc
  obtain ⟨pr, hpr⟩ : ∃ x, pruneR r cc l zs = x := ⟨_, rfl⟩
  obtain ⟨pc, hpc⟩ : ∃ x, pruneC r cc l zs = x := ⟨_, rfl⟩
  obtain ⟨ps, hps⟩ : ∃ x, pruneZ r cc l zs = x := ⟨_, rfl⟩
  have hpl := pruneZ_len r cc l zs (by omega)
  rw [hps] at hpl
  have HP := Lib.hid (And.intro hpr (And.intro hpc hps))
  clear hpr hpc hps
  have kn := Cell3.new W0 (.int .i64 r) (.int .i64 cc) (.slice Am zs.length cm) 28
  obtain ⟨W1, hW1⟩ : ∃ W, W0.alloc (.cells #[.int .i64 r, .int .i64 cc, .slice Am zs.length cm] 28) = W := ⟨_, rfl⟩
  rw [hW1] at kn
  have z1 : W1.heap.size = W0.heap.size + 1 := by rw [← hW1]; simp
  have hal : Below W0.heap.size W0 W1 := hW1 ▸ (Below.refl _ _).alloc (Nat.le_refl _) _
  have s1 := hal.size
  have Rm_1 := Lib.hid (Rm_0.out.below hal (show W0.heap.size ≤ W0.heap.size by omega))
  have HB_1 := Lib.hid (HB_0.out.trans (hal.mono (show w.heap.size ≤ W0.heap.size by omega)))
  clear Rm_0 HB_0 hal
  have K3_1 := Lib.hid kn
  clear kn
  obtain ⟨x30, x31, x32, _, _, _, x3lt⟩ := K3_1.out
  go_wp2_with fail
  refine (implPrune_any r cc l Am cm _ W1.heap.size zs W1 (Rm_1.out.sl_now.more (show W0.heap.size ≤ W1.heap.size by omega)) (Nat.le_refl _) rfl (by omega)).mono ?_
  rintro e W2 ⟨sv2, rfl, hr, hb⟩
  rw [HP.out.1, HP.out.2.1]
  rw [HP.out.2.2] at hr
  obtain ⟨Ax, cx, rfl, hcp1, hcp2, _⟩ := hr.form
  have HCPx := Lib.hid (And.intro hcp1 hcp2)
  clear hcp1 hcp2
  clear x30 x31 x32 x3lt
  have s2 := hb.size
  have K3_2 := Lib.hid (K3_1.out.below hb (show W0.heap.size < W1.heap.size by omega))
  have Rm_2 := Lib.hid (Rm_1.out.below hb (show W0.heap.size ≤ W1.heap.size by omega))
  have HB_2 := Lib.hid (HB_1.out.trans (hb.mono (show w.heap.size ≤ W1.heap.size by omega)))
  clear K3_1 Rm_1 HB_1 hb
  have Rx_2 := Lib.hid hr
  clear hr
  have kn := Cell3.new W2 (.int .i64 pr) (.int .i64 pc) (.slice Ax ps.length cx) 28
  obtain ⟨W3, hW3⟩ : ∃ W, W2.alloc (.cells #[.int .i64 pr, .int .i64 pc, .slice Ax ps.length cx] 28) = W := ⟨_, rfl⟩
  rw [hW3] at kn
  have z3 : W3.heap.size = W2.heap.size + 1 := by rw [← hW3]; simp
  have hal : Below W2.heap.size W2 W3 := hW3 ▸ (Below.refl _ _).alloc (Nat.le_refl _) _
  have s3 := hal.size
  have K3_3 := Lib.hid (K3_2.out.below hal (show W0.heap.size < W2.heap.size by omega))
  have Rm_3 := Lib.hid (Rm_2.out.below hal (show W0.heap.size ≤ W2.heap.size by omega))
  have Rx_3 := Lib.hid (Rx_2.out.below hal (show W2.heap.size ≤ W2.heap.size by omega))
  have HB_3 := Lib.hid (HB_2.out.trans (hal.mono (show w.heap.size ≤ W2.heap.size by omega)))
  clear K3_2 Rm_2 Rx_2 HB_2 hal
  have K5_3 := Lib.hid kn
  clear kn
  obtain ⟨x30, x31, x32, _, _, _, x3lt⟩ := K3_3.out
  obtain ⟨x50, x51, x52, _, _, _, x5lt⟩ := K5_3.out
  have HMK := Lib.hid fun w' (hx : Below W3.heap.size W3 w') => (show (w'.cell? ⟨W0.heap.size, 0, none⟩ = some (.int .i64 (r)) ∧ w'.cell? ⟨W0.heap.size, 1, none⟩ = some (.int .i64 (cc)) ∧ w'.cell? ⟨W0.heap.size, 2, none⟩ = some (.slice Am zs.length cm)) ∧ (w'.cell? ⟨W2.heap.size, 0, none⟩ = some (.int .i64 (pr)) ∧ w'.cell? ⟨W2.heap.size, 1, none⟩ = some (.int .i64 (pc)) ∧ w'.cell? ⟨W2.heap.size, 2, none⟩ = some (.slice Ax ps.length cx)) from ⟨⟨(K3_3.out.below hx (show _ < W3.heap.size by omega)).c0, (K3_3.out.below hx (show _ < W3.heap.size by omega)).c1, (K3_3.out.below hx (show _ < W3.heap.size by omega)).c2⟩, ⟨(K5_3.out.below hx (show _ < W3.heap.size by omega)).c0, (K5_3.out.below hx (show _ < W3.heap.size by omega)).c1, (K5_3.out.below hx (show _ < W3.heap.size by omega)).c2⟩⟩)
  have hcur : Below W3.heap.size W3 W3.drew := Below.of_drew _
  go_wp2
  go_region_held3 (fun w' => (w'.cell? ⟨W0.heap.size, 0, none⟩ = some (.int .i64 (r)) ∧ w'.cell? ⟨W0.heap.size, 1, none⟩ = some (.int .i64 (cc)) ∧ w'.cell? ⟨W0.heap.size, 2, none⟩ = some (.slice Am zs.length cm)) ∧ (w'.cell? ⟨W2.heap.size, 0, none⟩ = some (.int .i64 (pr)) ∧ w'.cell? ⟨W2.heap.size, 1, none⟩ = some (.int .i64 (pc)) ∧ w'.cell? ⟨W2.heap.size, 2, none⟩ = some (.slice Ax ps.length cx)))
    (first | exact HMK.out _ hcur | exact HMK.out _ (hcur.alloc hcur.size _) | fail)
    (first
      | (go_simp; go_at_call 35; (with_reducible refine (specPrune_any r cc l Am cm _ W3.heap.size zs W3.drew ((Rm_3.out.sl_now.more (show W0.heap.size ≤ W3.heap.size by omega)).below hcur (Nat.le_refl _)) hcur.size rfl (by omega)).mono ?_); rintro e Wa ⟨sva, rfl, hra, hba⟩; rw [HP.out.1, HP.out.2.1]; rw [HP.out.2.2] at hra; obtain ⟨Aq, cq, rfl, _, _, _⟩ := hra.form; have hcur := hcur.trans (hba.mono hcur.size))
      | (go_simp; go_at_call 25; (with_reducible refine (sameM_same pr pc Ax Aq cx cq ps Wa (((Rx_3.out.sl_now.more (show W2.heap.size ≤ W3.heap.size by omega)).below hcur (Nat.le_refl _)).more hcur.size) hra.sl_now (by omega)).mono ?_); rintro e Wb ⟨rfl, hbb⟩; have hcur := hcur.trans (hbb.mono hcur.size))
      | fail)
  obtain ⟨W4, hWb⟩ : ∃ W, W = Wb := ⟨_, rfl⟩
  subst hWb
  clear HMK
  clear x30 x31 x32 x3lt x50 x51 x52 x5lt
  have s4 := hcur.size
  have K3_4 := Lib.hid (K3_3.out.below hcur (show W0.heap.size < W3.heap.size by omega))
  have K5_4 := Lib.hid (K5_3.out.below hcur (show W2.heap.size < W3.heap.size by omega))
  have Rm_4 := Lib.hid (Rm_3.out.below hcur (show W0.heap.size ≤ W3.heap.size by omega))
  have Rx_4 := Lib.hid (Rx_3.out.below hcur (show W2.heap.size ≤ W3.heap.size by omega))
  have HB_4 := Lib.hid (HB_3.out.trans (hcur.mono (show w.heap.size ≤ W3.heap.size by omega)))
  clear K3_3 K5_3 Rm_3 Rx_3 HB_3 hcur
  clear hra hba hbb
  by_cases hok : OkP r cc zs l
  · obtain ⟨eR, eC, hr1, hle, h2, h3, h4⟩ := prune_yes hok
    rw [HP.out.1] at eR
    rw [HP.out.2.1] at eC
    rw [HP.out.2.2] at hle h2
    subst eR eC
    have H2 := Lib.hid h2
    have H3 := Lib.hid h3
    have H4 := Lib.hid h4
    obtain ⟨c1s, hc1⟩ : ∃ x, cOf r cc ps = x := ⟨_, rfl⟩
    obtain ⟨c2s, hc2⟩ : ∃ x, cOf r cc zs = x := ⟨_, rfl⟩
    have hq1 := cOf_len r cc ps
    have hq2 := cOf_len r cc zs
    rw [hc1] at hle hq1
    rw [hc2] at hle hq2
    have HC1 := Lib.hid hc1
    have HC2 := Lib.hid hc2
    have hld : decide ((c1s.length : Int) ≤ (c2s.length : Int)) = true := by simp; omega
    have hnz : (r == 0) = false := by simp; omega
    clear hok h2 h3 h4 hc1 hc2
    obtain ⟨x30, x31, x32, _, _, _, x3lt⟩ := K3_4.out
    obtain ⟨x50, x51, x52, _, _, _, x5lt⟩ := K5_4.out
    obtain ⟨x30, x31, x32, _, _, _, x3lt⟩ := K3_4.out
    obtain ⟨x50, x51, x52, _, _, _, x5lt⟩ := K5_4.out
    have HMK := Lib.hid fun w' (hx : Below W4.heap.size W4 w') => (show (w'.cell? ⟨W0.heap.size, 0, none⟩ = some (.int .i64 (r)) ∧ w'.cell? ⟨W0.heap.size, 1, none⟩ = some (.int .i64 (cc)) ∧ w'.cell? ⟨W0.heap.size, 2, none⟩ = some (.slice Am zs.length cm)) ∧ (w'.cell? ⟨W2.heap.size, 0, none⟩ = some (.int .i64 (r)) ∧ w'.cell? ⟨W2.heap.size, 1, none⟩ = some (.int .i64 (cc)) ∧ w'.cell? ⟨W2.heap.size, 2, none⟩ = some (.slice Ax ps.length cx)) from ⟨⟨(K3_4.out.below hx (show _ < W4.heap.size by omega)).c0, (K3_4.out.below hx (show _ < W4.heap.size by omega)).c1, (K3_4.out.below hx (show _ < W4.heap.size by omega)).c2⟩, ⟨(K5_4.out.below hx (show _ < W4.heap.size by omega)).c0, (K5_4.out.below hx (show _ < W4.heap.size by omega)).c1, (K5_4.out.below hx (show _ < W4.heap.size by omega)).c2⟩⟩)
    have hcur : Below W4.heap.size W4 W4.drew := Below.of_drew _
    go_wp2
    go_region_held3 (fun w' => (w'.cell? ⟨W0.heap.size, 0, none⟩ = some (.int .i64 (r)) ∧ w'.cell? ⟨W0.heap.size, 1, none⟩ = some (.int .i64 (cc)) ∧ w'.cell? ⟨W0.heap.size, 2, none⟩ = some (.slice Am zs.length cm)) ∧ (w'.cell? ⟨W2.heap.size, 0, none⟩ = some (.int .i64 (r)) ∧ w'.cell? ⟨W2.heap.size, 1, none⟩ = some (.int .i64 (cc)) ∧ w'.cell? ⟨W2.heap.size, 2, none⟩ = some (.slice Ax ps.length cx)))
      (first | exact HMK.out _ hcur | exact HMK.out _ (hcur.alloc hcur.size _) | fail)
      (first
        | (go_simp; go_at_call 14; (with_reducible refine (implCells_any r cc Ax cx _ W4.heap.size ps W4.drew ((Rx_4.out.sl_now.more (show W2.heap.size ≤ W4.heap.size by omega)).below hcur (Nat.le_refl _)) hcur.size rfl (by omega) HCPx.out.1 HCPx.out.2).mono ?_); rintro e Wa ⟨sva, rfl, hra, hba⟩; rw [HC1.out] at hra; obtain ⟨Aa, ca, rfl, _, _, _⟩ := hra.form; have hcur := hcur.trans (hba.mono hcur.size))
        | (go_simp; go_at_call 14; (with_reducible refine (implCells_any r cc Am cm _ W4.heap.size zs Wa ((Rm_4.out.sl_now.more (show W0.heap.size ≤ W4.heap.size by omega)).below hcur (Nat.le_refl _)) hcur.size rfl (by omega) HCPm.out.1 HCPm.out.2).mono ?_); rintro e Wb ⟨svb, rfl, hrb, hbb⟩; rw [HC2.out] at hrb; obtain ⟨Ab, cb, rfl, _, _, _⟩ := hrb.form; have hcur := hcur.trans (hbb.mono hcur.size))
        | (go_simp; go_at_call 36; (with_reducible refine (implPrune_any r cc l Ax cx _ W4.heap.size ps Wb ((Rx_4.out.sl_now.more (show W2.heap.size ≤ W4.heap.size by omega)).below hcur (Nat.le_refl _)) hcur.size rfl (by omega)).mono ?_); rintro e Wc ⟨svc, rfl, hrc, hbc⟩; rw [H2.out.1, H2.out.2.1]; rw [H2.out.2.2] at hrc; obtain ⟨Ac, cc3, rfl, _, _, _⟩ := hrc.form; have hcur := hcur.trans (hbc.mono hcur.size))
        | (go_simp; go_at_call 25; (with_reducible refine (sameM_same r cc Ac Ax cc3 cx ps Wc hrc.sl_now (((Rx_4.out.sl_now.more (show W2.heap.size ≤ W4.heap.size by omega)).below hcur (Nat.le_refl _)).more hcur.size) (by omega)).mono ?_); rintro e Wd ⟨rfl, hbd⟩; have hcur := hcur.trans (hbd.mono hcur.size))
        | (go_simp; go_at_call 36; (with_reducible refine (implPrune_any r cc 0 Am cm _ W4.heap.size zs Wd ((Rm_4.out.sl_now.more (show W0.heap.size ≤ W4.heap.size by omega)).below hcur (Nat.le_refl _)) hcur.size rfl (by omega)).mono ?_); rintro e We ⟨sve, rfl, hre, hbe⟩; rw [H3.out.1, H3.out.2.1]; rw [H3.out.2.2] at hre; obtain ⟨Ae, ce, rfl, _, _, _⟩ := hre.form; have hcur := hcur.trans (hbe.mono hcur.size))
        | (go_simp; go_at_call 25; (with_reducible refine (sameM_same r cc Ae Am ce cm zs We hre.sl_now (((Rm_4.out.sl_now.more (show W0.heap.size ≤ W4.heap.size by omega)).below hcur (Nat.le_refl _)).more hcur.size) (by omega)).mono ?_); rintro e Wf ⟨rfl, hbf⟩; have hcur := hcur.trans (hbf.mono hcur.size))
        | (go_simp; go_at_call 36; (with_reducible refine (implPrune_any r cc 1 Am cm _ W4.heap.size zs Wf ((Rm_4.out.sl_now.more (show W0.heap.size ≤ W4.heap.size by omega)).below hcur (Nat.le_refl _)) hcur.size rfl (by omega)).mono ?_); rintro e Wg ⟨svg, rfl, hrg, hbg⟩; rw [H4.out.1, H4.out.2.1]; rw [H4.out.2.2] at hrg; obtain ⟨Ag, cg, rfl, _, _, _⟩ := hrg.form; have hcur := hcur.trans (hbg.mono hcur.size))
        | (go_simp; go_at_call 25; (with_reducible refine (sameM_same r cc Ag Am cg cm zs Wg hrg.sl_now (((Rm_4.out.sl_now.more (show W0.heap.size ≤ W4.heap.size by omega)).below hcur (Nat.le_refl _)).more hcur.size) (by omega)).mono ?_); rintro e Wh ⟨rfl, hbh⟩; have hcur := hcur.trans (hbh.mono hcur.size))
        | fail)
    go_wp2
    go_ret
    exact ⟨rfl, HB_4.out.trans (hcur.mono HB_4.out.size)⟩
  · have e1 : pr = 0 := by rw [← HP.out.1]; unfold pruneR; rw [if_neg hok]
    have e2 : ps = [] := by rw [← HP.out.2.2]; unfold pruneZ; rw [if_neg hok]
    subst e1 e2
    obtain ⟨x30, x31, x32, _, _, _, x3lt⟩ := K3_4.out
    obtain ⟨x50, x51, x52, _, _, _, x5lt⟩ := K5_4.out
    go_wp2_with fail
    refine (alive_any _).mono ?_
    rintro e w' ⟨rfl, rfl⟩
    go_wp2
    go_ret
    exact ⟨rfl, HB_4.out⟩
end Go.Proofs.Ytdebnbgjnmoleaa
