/- Contracts: ordered shared matrices, the reference's; whole contracts. (Printed by gen_R7.py.) -/
import Derived.Test.YtilmglockldddaaFnsO1
import Derived.Deep.RegionHeld3
namespace Go.Proofs.Ytilmglockldddaa
open Go.RowKit

set_option maxHeartbeats 3200000 in
theorem specOS_no (r c : Int) (A : Option Addr) (cap n B : Nat) (zs : List Int) (r2 c2 : Int) (A2 : Option Addr) (cap2 n2 B2 : Nat) (ks : List Int) (Ao : Option Addr) (co no Bo : Nat) (os : List Int) (sd : Int) (w : World) (hs : Sl w B A zs) (hB : B ≤ w.heap.size) (e : n = zs.length) (hn : n ≤ 1100000) (hs2 : Sl w B2 A2 ks) (hB2 : B2 ≤ w.heap.size) (e2 : n2 = ks.length) (hn2 : n2 ≤ 1100000) (hso : Sl w Bo Ao os) (hBo : Bo ≤ w.heap.size) (eo : no = os.length) (hno : no ≤ 1100000) (h : ¬ (OkS r c zs r2 c2 ks ∧ OkR r c zs os ∧ 1 ≤ sd ∧ sd ≤ 2147483646)) :
    Calls Try.prog 27 #[smV r c (.slice A n cap) r2 c2 (.slice A2 n2 cap2), .slice Ao no co, .int .i64 sd] w fun e w' => e = .returned (.tuple #[smV 0 0 (.slice none 0 0) 0 0 (.slice none 0 0), .int .i64 0]) ∧ Below w.heap.size w w' := by
  subst e
  subst e2
  subst eo
  have hpr0 : ¬ OkR r c zs os → ordR r c zs os = 0 := fun x => by unfold ordR; rw [if_neg x]
  have hpr1 : OkR r c zs os → ordR r c zs os = r := fun x => (ord_yes x).1
  obtain ⟨pr, hpr⟩ : ∃ x, ordR r c zs os = x := ⟨_, rfl⟩
  obtain ⟨pc, hpc⟩ : ∃ x, ordC r c zs os = x := ⟨_, rfl⟩
  obtain ⟨ps, hps⟩ : ∃ x, ordZ r c zs os = x := ⟨_, rfl⟩
  rw [hpr] at hpr0 hpr1
  have HP := Lib.hid (And.intro hpr (And.intro hpc hps))
  clear hpr hpc hps
  by_cases ho : OkS r c zs r2 c2 ks
  · have HO := Lib.hid ho
    by_cases hr : OkR r c zs os
    · have hsd : sd < 1 ∨ 2147483646 < sd := by
        apply Classical.byContradiction
        intro hh
        exact h ⟨ho, hr, by omega, by omega⟩
      have hpq := hpr1 hr
      have hp1 : (pr == 0) = false := by have := ho.1.1; simp; omega
      clear h ho hr hpr0 hpr1 hpq
      have q3 := (Cell6.new (w) (.int .i64 r) (.int .i64 c) (.slice A zs.length cap) (.int .i64 r2) (.int .i64 c2) (.slice A2 ks.length cap2) 47).alloc (.cells #[.int .i64 0, .int .i64 0, .slice none 0 0, .int .i64 0, .int .i64 0, .slice none 0 0] 47)
      have q6 := Cell6.new (w.alloc (.cells #[.int .i64 r, .int .i64 c, .slice A zs.length cap, .int .i64 r2, .int .i64 c2, .slice A2 ks.length cap2] 47)) (.int .i64 0) (.int .i64 0) (.slice none 0 0) (.int .i64 0) (.int .i64 0) (.slice none 0 0) 47
      have hb : Below w.heap.size w ((w.alloc (.cells #[.int .i64 r, .int .i64 c, .slice A zs.length cap, .int .i64 r2, .int .i64 c2, .slice A2 ks.length cap2] 47)).alloc (.cells #[.int .i64 0, .int .i64 0, .slice none 0 0, .int .i64 0, .int .i64 0, .slice none 0 0] 47)) := ((Below.refl _ _).alloc (Nat.le_refl _) _).alloc (by simp) _
      have hsz : ((w.alloc (.cells #[.int .i64 r, .int .i64 c, .slice A zs.length cap, .int .i64 r2, .int .i64 c2, .slice A2 ks.length cap2] 47)).alloc (.cells #[.int .i64 0, .int .i64 0, .slice none 0 0, .int .i64 0, .int .i64 0, .slice none 0 0] 47)).heap.size = w.heap.size + 2 := by simp
      simp only [World.size_alloc] at q6
      obtain ⟨W0, hW⟩ : ∃ W, (w.alloc (.cells #[.int .i64 r, .int .i64 c, .slice A zs.length cap, .int .i64 r2, .int .i64 c2, .slice A2 ks.length cap2] 47)).alloc (.cells #[.int .i64 0, .int .i64 0, .slice none 0 0, .int .i64 0, .int .i64 0, .slice none 0 0] 47) = W := ⟨_, rfl⟩
      rw [hW] at q3 q6 hb hsz
      replace hsz := And.intro (Nat.le_of_eq hsz) (Nat.le_of_eq hsz.symm)
      have K3_0 := Lib.hid q3
      have K6_0 := Lib.hid q6
      have Sa_0 := Lib.hid (hs.below hb hB)
      have Sb_0 := Lib.hid (hs2.below hb hB2)
      have So_0 := Lib.hid (hso.below hb hBo)
      have HB_0 := Lib.hid hb
      clear hb q3 q6 hs hs2 hso
      go_enter Try.func27, Try.ntmps27
      obtain ⟨x30, x31, x32, x33, x34, x35, xf30, xf31, xf32, xf33, xf34, xf35, x3lt⟩ := K3_0.out
      obtain ⟨x60, x61, x62, x63, x64, x65, xf60, xf61, xf62, xf63, xf64, xf65, x6lt⟩ := K6_0.out
      go_wp2_with fail
      refine (ownS_any r c A cap _ B zs r2 c2 A2 cap2 _ B2 ks W0 Sa_0.out (by omega) rfl hn Sb_0.out (by omega) rfl hn2).mono ?_
      rintro e W1 ⟨sv1, tv1, rfl, hr, hb⟩
      obtain ⟨Au, cu, Bu, du, rfl, rfl, hcp1, hcp2⟩ := hr.form
      have HCPu := Lib.hid (And.intro hcp1 hcp2)
      clear hcp1 hcp2
      clear x30 x31 x32 x33 x34 x35 xf30 xf31 xf32 xf33 xf34 xf35 x3lt x60 x61 x62 x63 x64 x65 xf60 xf61 xf62 xf63 xf64 xf65 x6lt
      have s1 := hb.size
      have K3_1 := Lib.hid (K3_0.out.below hb (show w.heap.size < W0.heap.size by omega))
      have K6_1 := Lib.hid (K6_0.out.below hb (show w.heap.size + 1 < W0.heap.size by omega))
      have Sa_1 := Lib.hid (Sa_0.out.below hb (show B ≤ W0.heap.size by omega))
      have Sb_1 := Lib.hid (Sb_0.out.below hb (show B2 ≤ W0.heap.size by omega))
      have So_1 := Lib.hid (So_0.out.below hb (show Bo ≤ W0.heap.size by omega))
      have HB_1 := Lib.hid (HB_0.out.trans (hb.mono (show w.heap.size ≤ W0.heap.size by omega)))
      clear K3_0 K6_0 Sa_0 Sb_0 So_0 HB_0 hb hW
      have Ru_1 := Lib.hid hr
      clear hr
      have K3_2 := Lib.hid ((((((K3_1.out.set0 (.int .i64 r)).set1 (.int .i64 c)).set2 (.slice Au zs.length cu)).set3 (.int .i64 r2)).set4 (.int .i64 c2)).set5 (.slice Bu ks.length du))
      have K6_2 := Lib.hid ((((((K6_1.out.far (a := ⟨w.heap.size, 0, none⟩) (show w.heap.size + 1 ≠ w.heap.size by omega) (.int .i64 r)).far (a := ⟨w.heap.size, 1, none⟩) (show w.heap.size + 1 ≠ w.heap.size by omega) (.int .i64 c)).far (a := ⟨w.heap.size, 2, none⟩) (show w.heap.size + 1 ≠ w.heap.size by omega) (.slice Au zs.length cu)).far (a := ⟨w.heap.size, 3, none⟩) (show w.heap.size + 1 ≠ w.heap.size by omega) (.int .i64 r2)).far (a := ⟨w.heap.size, 4, none⟩) (show w.heap.size + 1 ≠ w.heap.size by omega) (.int .i64 c2)).far (a := ⟨w.heap.size, 5, none⟩) (show w.heap.size + 1 ≠ w.heap.size by omega) (.slice Bu ks.length du))
      have Ru_2 := Lib.hid ((((((Ru_1.out.grown (set_grown _ (w.heap.size) 0 (.int .i64 r)) (fun g e => by cases e; omega)).grown (set_grown _ (w.heap.size) 1 (.int .i64 c)) (fun g e => by cases e; omega)).grown (set_grown _ (w.heap.size) 2 (.slice Au zs.length cu)) (fun g e => by cases e; omega)).grown (set_grown _ (w.heap.size) 3 (.int .i64 r2)) (fun g e => by cases e; omega)).grown (set_grown _ (w.heap.size) 4 (.int .i64 c2)) (fun g e => by cases e; omega)).grown (set_grown _ (w.heap.size) 5 (.slice Bu ks.length du)) (fun g e => by cases e; omega))
      have Sa_2 := Lib.hid ((((((Sa_1.out.keep (w' := (W1.setCell ⟨w.heap.size, 0, none⟩ (.int .i64 r))) (fun p hp => World.cell?_setCell_other _ _ _ _ (fun e => by rw [← e] at hp; exact absurd (show w.heap.size < B from hp) (by omega)))).keep (w' := ((W1.setCell ⟨w.heap.size, 0, none⟩ (.int .i64 r)).setCell ⟨w.heap.size, 1, none⟩ (.int .i64 c))) (fun p hp => World.cell?_setCell_other _ _ _ _ (fun e => by rw [← e] at hp; exact absurd (show w.heap.size < B from hp) (by omega)))).keep (w' := (((W1.setCell ⟨w.heap.size, 0, none⟩ (.int .i64 r)).setCell ⟨w.heap.size, 1, none⟩ (.int .i64 c)).setCell ⟨w.heap.size, 2, none⟩ (.slice Au zs.length cu))) (fun p hp => World.cell?_setCell_other _ _ _ _ (fun e => by rw [← e] at hp; exact absurd (show w.heap.size < B from hp) (by omega)))).keep (w' := ((((W1.setCell ⟨w.heap.size, 0, none⟩ (.int .i64 r)).setCell ⟨w.heap.size, 1, none⟩ (.int .i64 c)).setCell ⟨w.heap.size, 2, none⟩ (.slice Au zs.length cu)).setCell ⟨w.heap.size, 3, none⟩ (.int .i64 r2))) (fun p hp => World.cell?_setCell_other _ _ _ _ (fun e => by rw [← e] at hp; exact absurd (show w.heap.size < B from hp) (by omega)))).keep (w' := (((((W1.setCell ⟨w.heap.size, 0, none⟩ (.int .i64 r)).setCell ⟨w.heap.size, 1, none⟩ (.int .i64 c)).setCell ⟨w.heap.size, 2, none⟩ (.slice Au zs.length cu)).setCell ⟨w.heap.size, 3, none⟩ (.int .i64 r2)).setCell ⟨w.heap.size, 4, none⟩ (.int .i64 c2))) (fun p hp => World.cell?_setCell_other _ _ _ _ (fun e => by rw [← e] at hp; exact absurd (show w.heap.size < B from hp) (by omega)))).keep (w' := ((((((W1.setCell ⟨w.heap.size, 0, none⟩ (.int .i64 r)).setCell ⟨w.heap.size, 1, none⟩ (.int .i64 c)).setCell ⟨w.heap.size, 2, none⟩ (.slice Au zs.length cu)).setCell ⟨w.heap.size, 3, none⟩ (.int .i64 r2)).setCell ⟨w.heap.size, 4, none⟩ (.int .i64 c2)).setCell ⟨w.heap.size, 5, none⟩ (.slice Bu ks.length du))) (fun p hp => World.cell?_setCell_other _ _ _ _ (fun e => by rw [← e] at hp; exact absurd (show w.heap.size < B from hp) (by omega))))
      have Sb_2 := Lib.hid ((((((Sb_1.out.keep (w' := (W1.setCell ⟨w.heap.size, 0, none⟩ (.int .i64 r))) (fun p hp => World.cell?_setCell_other _ _ _ _ (fun e => by rw [← e] at hp; exact absurd (show w.heap.size < B2 from hp) (by omega)))).keep (w' := ((W1.setCell ⟨w.heap.size, 0, none⟩ (.int .i64 r)).setCell ⟨w.heap.size, 1, none⟩ (.int .i64 c))) (fun p hp => World.cell?_setCell_other _ _ _ _ (fun e => by rw [← e] at hp; exact absurd (show w.heap.size < B2 from hp) (by omega)))).keep (w' := (((W1.setCell ⟨w.heap.size, 0, none⟩ (.int .i64 r)).setCell ⟨w.heap.size, 1, none⟩ (.int .i64 c)).setCell ⟨w.heap.size, 2, none⟩ (.slice Au zs.length cu))) (fun p hp => World.cell?_setCell_other _ _ _ _ (fun e => by rw [← e] at hp; exact absurd (show w.heap.size < B2 from hp) (by omega)))).keep (w' := ((((W1.setCell ⟨w.heap.size, 0, none⟩ (.int .i64 r)).setCell ⟨w.heap.size, 1, none⟩ (.int .i64 c)).setCell ⟨w.heap.size, 2, none⟩ (.slice Au zs.length cu)).setCell ⟨w.heap.size, 3, none⟩ (.int .i64 r2))) (fun p hp => World.cell?_setCell_other _ _ _ _ (fun e => by rw [← e] at hp; exact absurd (show w.heap.size < B2 from hp) (by omega)))).keep (w' := (((((W1.setCell ⟨w.heap.size, 0, none⟩ (.int .i64 r)).setCell ⟨w.heap.size, 1, none⟩ (.int .i64 c)).setCell ⟨w.heap.size, 2, none⟩ (.slice Au zs.length cu)).setCell ⟨w.heap.size, 3, none⟩ (.int .i64 r2)).setCell ⟨w.heap.size, 4, none⟩ (.int .i64 c2))) (fun p hp => World.cell?_setCell_other _ _ _ _ (fun e => by rw [← e] at hp; exact absurd (show w.heap.size < B2 from hp) (by omega)))).keep (w' := ((((((W1.setCell ⟨w.heap.size, 0, none⟩ (.int .i64 r)).setCell ⟨w.heap.size, 1, none⟩ (.int .i64 c)).setCell ⟨w.heap.size, 2, none⟩ (.slice Au zs.length cu)).setCell ⟨w.heap.size, 3, none⟩ (.int .i64 r2)).setCell ⟨w.heap.size, 4, none⟩ (.int .i64 c2)).setCell ⟨w.heap.size, 5, none⟩ (.slice Bu ks.length du))) (fun p hp => World.cell?_setCell_other _ _ _ _ (fun e => by rw [← e] at hp; exact absurd (show w.heap.size < B2 from hp) (by omega))))
      have So_2 := Lib.hid ((((((So_1.out.keep (w' := (W1.setCell ⟨w.heap.size, 0, none⟩ (.int .i64 r))) (fun p hp => World.cell?_setCell_other _ _ _ _ (fun e => by rw [← e] at hp; exact absurd (show w.heap.size < Bo from hp) (by omega)))).keep (w' := ((W1.setCell ⟨w.heap.size, 0, none⟩ (.int .i64 r)).setCell ⟨w.heap.size, 1, none⟩ (.int .i64 c))) (fun p hp => World.cell?_setCell_other _ _ _ _ (fun e => by rw [← e] at hp; exact absurd (show w.heap.size < Bo from hp) (by omega)))).keep (w' := (((W1.setCell ⟨w.heap.size, 0, none⟩ (.int .i64 r)).setCell ⟨w.heap.size, 1, none⟩ (.int .i64 c)).setCell ⟨w.heap.size, 2, none⟩ (.slice Au zs.length cu))) (fun p hp => World.cell?_setCell_other _ _ _ _ (fun e => by rw [← e] at hp; exact absurd (show w.heap.size < Bo from hp) (by omega)))).keep (w' := ((((W1.setCell ⟨w.heap.size, 0, none⟩ (.int .i64 r)).setCell ⟨w.heap.size, 1, none⟩ (.int .i64 c)).setCell ⟨w.heap.size, 2, none⟩ (.slice Au zs.length cu)).setCell ⟨w.heap.size, 3, none⟩ (.int .i64 r2))) (fun p hp => World.cell?_setCell_other _ _ _ _ (fun e => by rw [← e] at hp; exact absurd (show w.heap.size < Bo from hp) (by omega)))).keep (w' := (((((W1.setCell ⟨w.heap.size, 0, none⟩ (.int .i64 r)).setCell ⟨w.heap.size, 1, none⟩ (.int .i64 c)).setCell ⟨w.heap.size, 2, none⟩ (.slice Au zs.length cu)).setCell ⟨w.heap.size, 3, none⟩ (.int .i64 r2)).setCell ⟨w.heap.size, 4, none⟩ (.int .i64 c2))) (fun p hp => World.cell?_setCell_other _ _ _ _ (fun e => by rw [← e] at hp; exact absurd (show w.heap.size < Bo from hp) (by omega)))).keep (w' := ((((((W1.setCell ⟨w.heap.size, 0, none⟩ (.int .i64 r)).setCell ⟨w.heap.size, 1, none⟩ (.int .i64 c)).setCell ⟨w.heap.size, 2, none⟩ (.slice Au zs.length cu)).setCell ⟨w.heap.size, 3, none⟩ (.int .i64 r2)).setCell ⟨w.heap.size, 4, none⟩ (.int .i64 c2)).setCell ⟨w.heap.size, 5, none⟩ (.slice Bu ks.length du))) (fun p hp => World.cell?_setCell_other _ _ _ _ (fun e => by rw [← e] at hp; exact absurd (show w.heap.size < Bo from hp) (by omega))))
      have HB_2 := Lib.hid ((((((HB_1.out.setCell (p := ⟨w.heap.size, 0, none⟩) (show w.heap.size ≤ w.heap.size by omega) (.int .i64 r)).setCell (p := ⟨w.heap.size, 1, none⟩) (show w.heap.size ≤ w.heap.size by omega) (.int .i64 c)).setCell (p := ⟨w.heap.size, 2, none⟩) (show w.heap.size ≤ w.heap.size by omega) (.slice Au zs.length cu)).setCell (p := ⟨w.heap.size, 3, none⟩) (show w.heap.size ≤ w.heap.size by omega) (.int .i64 r2)).setCell (p := ⟨w.heap.size, 4, none⟩) (show w.heap.size ≤ w.heap.size by omega) (.int .i64 c2)).setCell (p := ⟨w.heap.size, 5, none⟩) (show w.heap.size ≤ w.heap.size by omega) (.slice Bu ks.length du))
      have z2 : ((((((W1.setCell ⟨w.heap.size, 0, none⟩ (.int .i64 r)).setCell ⟨w.heap.size, 1, none⟩ (.int .i64 c)).setCell ⟨w.heap.size, 2, none⟩ (.slice Au zs.length cu)).setCell ⟨w.heap.size, 3, none⟩ (.int .i64 r2)).setCell ⟨w.heap.size, 4, none⟩ (.int .i64 c2)).setCell ⟨w.heap.size, 5, none⟩ (.slice Bu ks.length du)).heap.size = W1.heap.size := by simp
      obtain ⟨x30, x31, x32, x33, x34, x35, xf30, xf31, xf32, xf33, xf34, xf35, x3lt⟩ := K3_1.out
      obtain ⟨x60, x61, x62, x63, x64, x65, xf60, xf61, xf62, xf63, xf64, xf65, x6lt⟩ := K6_1.out
      go_wp2_with fail
      obtain ⟨W2, hW2⟩ : ∃ W, ((((((W1.setCell ⟨w.heap.size, 0, none⟩ (.int .i64 r)).setCell ⟨w.heap.size, 1, none⟩ (.int .i64 c)).setCell ⟨w.heap.size, 2, none⟩ (.slice Au zs.length cu)).setCell ⟨w.heap.size, 3, none⟩ (.int .i64 r2)).setCell ⟨w.heap.size, 4, none⟩ (.int .i64 c2)).setCell ⟨w.heap.size, 5, none⟩ (.slice Bu ks.length du)) = W := ⟨_, rfl⟩
      rw [hW2] at K3_2 K6_2 Ru_2 Sa_2 Sb_2 So_2 HB_2 z2 ⊢
      replace z2 := And.intro (Nat.le_of_eq z2) (Nat.le_of_eq z2.symm)
      clear x30 x31 x32 x33 x34 x35 xf30 xf31 xf32 xf33 xf34 xf35 x3lt x60 x61 x62 x63 x64 x65 xf60 xf61 xf62 xf63 xf64 xf65 x6lt
      clear hW2 K3_1 K6_1 Ru_1 Sa_1 Sb_1 So_1 HB_1
      refine (specOrd_any r c Au cu _ W2.heap.size zs Ao co _ Bo os W2 (Ru_2.out.sl1.more (show W1.heap.size ≤ W2.heap.size by omega)) (Nat.le_refl _) rfl hn So_2.out (by omega) rfl hno).mono ?_
      rintro e W3 ⟨sv3, rfl, hr, hb⟩
      rw [HP.out.1, HP.out.2.1]
      rw [HP.out.2.2] at hr
      obtain ⟨Af, cf, rfl, hcp1, hcp2, _⟩ := hr.form
      have HCPf := Lib.hid (And.intro hcp1 hcp2)
      clear hcp1 hcp2
      have s3 := hb.size
      have K3_3 := Lib.hid (K3_2.out.below hb (show w.heap.size < W2.heap.size by omega))
      have K6_3 := Lib.hid (K6_2.out.below hb (show w.heap.size + 1 < W2.heap.size by omega))
      have Ru_3 := Lib.hid (Ru_2.out.below hb (show W1.heap.size ≤ W2.heap.size by omega))
      have Sa_3 := Lib.hid (Sa_2.out.below hb (show B ≤ W2.heap.size by omega))
      have Sb_3 := Lib.hid (Sb_2.out.below hb (show B2 ≤ W2.heap.size by omega))
      have So_3 := Lib.hid (So_2.out.below hb (show Bo ≤ W2.heap.size by omega))
      have HB_3 := Lib.hid (HB_2.out.trans (hb.mono (show w.heap.size ≤ W2.heap.size by omega)))
      clear K3_2 K6_2 Ru_2 Sa_2 Sb_2 So_2 HB_2 hb
      have Rf_3 := Lib.hid hr
      clear hr
      have kn := Cell3.new W3 (.int .i64 pr) (.int .i64 pc) (.slice Af ps.length cf) 33
      obtain ⟨W4, hW4⟩ : ∃ W, W3.alloc (.cells #[.int .i64 pr, .int .i64 pc, .slice Af ps.length cf] 33) = W := ⟨_, rfl⟩
      rw [hW4] at kn
      have z4 : W4.heap.size = W3.heap.size + 1 := by rw [← hW4]; simp
      replace z4 := And.intro (Nat.le_of_eq z4) (Nat.le_of_eq z4.symm)
      have hal : Below W3.heap.size W3 W4 := hW4 ▸ (Below.refl _ _).alloc (Nat.le_refl _) _
      have s4 := hal.size
      have K3_4 := Lib.hid (K3_3.out.below hal (show w.heap.size < W3.heap.size by omega))
      have K6_4 := Lib.hid (K6_3.out.below hal (show w.heap.size + 1 < W3.heap.size by omega))
      have Ru_4 := Lib.hid (Ru_3.out.below hal (show W1.heap.size ≤ W3.heap.size by omega))
      have Rf_4 := Lib.hid (Rf_3.out.below hal (show W3.heap.size ≤ W3.heap.size by omega))
      have Sa_4 := Lib.hid (Sa_3.out.below hal (show B ≤ W3.heap.size by omega))
      have Sb_4 := Lib.hid (Sb_3.out.below hal (show B2 ≤ W3.heap.size by omega))
      have So_4 := Lib.hid (So_3.out.below hal (show Bo ≤ W3.heap.size by omega))
      have HB_4 := Lib.hid (HB_3.out.trans (hal.mono (show w.heap.size ≤ W3.heap.size by omega)))
      clear K3_3 K6_3 Ru_3 Rf_3 Sa_3 Sb_3 So_3 HB_3 hal
      have K8_4 := Lib.hid kn
      clear kn
      obtain ⟨x30, x31, x32, x33, x34, x35, xf30, xf31, xf32, xf33, xf34, xf35, x3lt⟩ := K3_4.out
      obtain ⟨x60, x61, x62, x63, x64, x65, xf60, xf61, xf62, xf63, xf64, xf65, x6lt⟩ := K6_4.out
      obtain ⟨x80, x81, x82, xf80, xf81, xf82, x8lt⟩ := K8_4.out
      go_wp2_with fail
      refine (specSMV_any r c Au cu _ W4.heap.size zs r2 c2 Bu du _ W4.heap.size ks W4 (Ru_4.out.sl1.more (show W1.heap.size ≤ W4.heap.size by omega)) (Nat.le_refl _) rfl hn (Ru_4.out.sl2.more (show W1.heap.size ≤ W4.heap.size by omega)) (Nat.le_refl _) rfl hn2 true ⟨fun _ => HO.out, fun _ => rfl⟩).mono ?_
      rintro e W5 ⟨rfl, hb⟩
      clear x30 x31 x32 x33 x34 x35 xf30 xf31 xf32 xf33 xf34 xf35 x3lt x60 x61 x62 x63 x64 x65 xf60 xf61 xf62 xf63 xf64 xf65 x6lt x80 x81 x82 xf80 xf81 xf82 x8lt
      have s5 := hb.size
      have K3_5 := Lib.hid (K3_4.out.below hb (show w.heap.size < W4.heap.size by omega))
      have K6_5 := Lib.hid (K6_4.out.below hb (show w.heap.size + 1 < W4.heap.size by omega))
      have K8_5 := Lib.hid (K8_4.out.below hb (show W3.heap.size < W4.heap.size by omega))
      have Ru_5 := Lib.hid (Ru_4.out.below hb (show W1.heap.size ≤ W4.heap.size by omega))
      have Rf_5 := Lib.hid (Rf_4.out.below hb (show W3.heap.size ≤ W4.heap.size by omega))
      have Sa_5 := Lib.hid (Sa_4.out.below hb (show B ≤ W4.heap.size by omega))
      have Sb_5 := Lib.hid (Sb_4.out.below hb (show B2 ≤ W4.heap.size by omega))
      have So_5 := Lib.hid (So_4.out.below hb (show Bo ≤ W4.heap.size by omega))
      have HB_5 := Lib.hid (HB_4.out.trans (hb.mono (show w.heap.size ≤ W4.heap.size by omega)))
      clear K3_4 K6_4 K8_4 Ru_4 Rf_4 Sa_4 Sb_4 So_4 HB_4 hb
      obtain ⟨x30, x31, x32, x33, x34, x35, xf30, xf31, xf32, xf33, xf34, xf35, x3lt⟩ := K3_5.out
      obtain ⟨x60, x61, x62, x63, x64, x65, xf60, xf61, xf62, xf63, xf64, xf65, x6lt⟩ := K6_5.out
      obtain ⟨x80, x81, x82, xf80, xf81, xf82, x8lt⟩ := K8_5.out
      go_wp2_with fail
      refine (l1In_no _ _ _ _ hsd).mono ?_
      rintro e w' ⟨rfl, rfl⟩
      have K3_6 := Lib.hid ((((((K3_5.out.far (a := ⟨w.heap.size + 1, 0, none⟩) (show w.heap.size ≠ w.heap.size + 1 by omega) (.int .i64 0)).far (a := ⟨w.heap.size + 1, 1, none⟩) (show w.heap.size ≠ w.heap.size + 1 by omega) (.int .i64 0)).far (a := ⟨w.heap.size + 1, 2, none⟩) (show w.heap.size ≠ w.heap.size + 1 by omega) (.slice none 0 0)).far (a := ⟨w.heap.size + 1, 3, none⟩) (show w.heap.size ≠ w.heap.size + 1 by omega) (.int .i64 0)).far (a := ⟨w.heap.size + 1, 4, none⟩) (show w.heap.size ≠ w.heap.size + 1 by omega) (.int .i64 0)).far (a := ⟨w.heap.size + 1, 5, none⟩) (show w.heap.size ≠ w.heap.size + 1 by omega) (.slice none 0 0))
      have K6_6 := Lib.hid ((((((K6_5.out.set0 (.int .i64 0)).set1 (.int .i64 0)).set2 (.slice none 0 0)).set3 (.int .i64 0)).set4 (.int .i64 0)).set5 (.slice none 0 0))
      have K8_6 := Lib.hid ((((((K8_5.out.far (a := ⟨w.heap.size + 1, 0, none⟩) (show W3.heap.size ≠ w.heap.size + 1 by omega) (.int .i64 0)).far (a := ⟨w.heap.size + 1, 1, none⟩) (show W3.heap.size ≠ w.heap.size + 1 by omega) (.int .i64 0)).far (a := ⟨w.heap.size + 1, 2, none⟩) (show W3.heap.size ≠ w.heap.size + 1 by omega) (.slice none 0 0)).far (a := ⟨w.heap.size + 1, 3, none⟩) (show W3.heap.size ≠ w.heap.size + 1 by omega) (.int .i64 0)).far (a := ⟨w.heap.size + 1, 4, none⟩) (show W3.heap.size ≠ w.heap.size + 1 by omega) (.int .i64 0)).far (a := ⟨w.heap.size + 1, 5, none⟩) (show W3.heap.size ≠ w.heap.size + 1 by omega) (.slice none 0 0))
      have Ru_6 := Lib.hid ((((((Ru_5.out.grown (set_grown _ (w.heap.size + 1) 0 (.int .i64 0)) (fun g e => by cases e; omega)).grown (set_grown _ (w.heap.size + 1) 1 (.int .i64 0)) (fun g e => by cases e; omega)).grown (set_grown _ (w.heap.size + 1) 2 (.slice none 0 0)) (fun g e => by cases e; omega)).grown (set_grown _ (w.heap.size + 1) 3 (.int .i64 0)) (fun g e => by cases e; omega)).grown (set_grown _ (w.heap.size + 1) 4 (.int .i64 0)) (fun g e => by cases e; omega)).grown (set_grown _ (w.heap.size + 1) 5 (.slice none 0 0)) (fun g e => by cases e; omega))
      have Rf_6 := Lib.hid ((((((Rf_5.out.grown (set_grown _ (w.heap.size + 1) 0 (.int .i64 0)) (fun g e => by cases e; omega)).grown (set_grown _ (w.heap.size + 1) 1 (.int .i64 0)) (fun g e => by cases e; omega)).grown (set_grown _ (w.heap.size + 1) 2 (.slice none 0 0)) (fun g e => by cases e; omega)).grown (set_grown _ (w.heap.size + 1) 3 (.int .i64 0)) (fun g e => by cases e; omega)).grown (set_grown _ (w.heap.size + 1) 4 (.int .i64 0)) (fun g e => by cases e; omega)).grown (set_grown _ (w.heap.size + 1) 5 (.slice none 0 0)) (fun g e => by cases e; omega))
      have Sa_6 := Lib.hid ((((((Sa_5.out.keep (w' := (W5.setCell ⟨w.heap.size + 1, 0, none⟩ (.int .i64 0))) (fun p hp => World.cell?_setCell_other _ _ _ _ (fun e => by rw [← e] at hp; exact absurd (show w.heap.size + 1 < B from hp) (by omega)))).keep (w' := ((W5.setCell ⟨w.heap.size + 1, 0, none⟩ (.int .i64 0)).setCell ⟨w.heap.size + 1, 1, none⟩ (.int .i64 0))) (fun p hp => World.cell?_setCell_other _ _ _ _ (fun e => by rw [← e] at hp; exact absurd (show w.heap.size + 1 < B from hp) (by omega)))).keep (w' := (((W5.setCell ⟨w.heap.size + 1, 0, none⟩ (.int .i64 0)).setCell ⟨w.heap.size + 1, 1, none⟩ (.int .i64 0)).setCell ⟨w.heap.size + 1, 2, none⟩ (.slice none 0 0))) (fun p hp => World.cell?_setCell_other _ _ _ _ (fun e => by rw [← e] at hp; exact absurd (show w.heap.size + 1 < B from hp) (by omega)))).keep (w' := ((((W5.setCell ⟨w.heap.size + 1, 0, none⟩ (.int .i64 0)).setCell ⟨w.heap.size + 1, 1, none⟩ (.int .i64 0)).setCell ⟨w.heap.size + 1, 2, none⟩ (.slice none 0 0)).setCell ⟨w.heap.size + 1, 3, none⟩ (.int .i64 0))) (fun p hp => World.cell?_setCell_other _ _ _ _ (fun e => by rw [← e] at hp; exact absurd (show w.heap.size + 1 < B from hp) (by omega)))).keep (w' := (((((W5.setCell ⟨w.heap.size + 1, 0, none⟩ (.int .i64 0)).setCell ⟨w.heap.size + 1, 1, none⟩ (.int .i64 0)).setCell ⟨w.heap.size + 1, 2, none⟩ (.slice none 0 0)).setCell ⟨w.heap.size + 1, 3, none⟩ (.int .i64 0)).setCell ⟨w.heap.size + 1, 4, none⟩ (.int .i64 0))) (fun p hp => World.cell?_setCell_other _ _ _ _ (fun e => by rw [← e] at hp; exact absurd (show w.heap.size + 1 < B from hp) (by omega)))).keep (w' := ((((((W5.setCell ⟨w.heap.size + 1, 0, none⟩ (.int .i64 0)).setCell ⟨w.heap.size + 1, 1, none⟩ (.int .i64 0)).setCell ⟨w.heap.size + 1, 2, none⟩ (.slice none 0 0)).setCell ⟨w.heap.size + 1, 3, none⟩ (.int .i64 0)).setCell ⟨w.heap.size + 1, 4, none⟩ (.int .i64 0)).setCell ⟨w.heap.size + 1, 5, none⟩ (.slice none 0 0))) (fun p hp => World.cell?_setCell_other _ _ _ _ (fun e => by rw [← e] at hp; exact absurd (show w.heap.size + 1 < B from hp) (by omega))))
      have Sb_6 := Lib.hid ((((((Sb_5.out.keep (w' := (W5.setCell ⟨w.heap.size + 1, 0, none⟩ (.int .i64 0))) (fun p hp => World.cell?_setCell_other _ _ _ _ (fun e => by rw [← e] at hp; exact absurd (show w.heap.size + 1 < B2 from hp) (by omega)))).keep (w' := ((W5.setCell ⟨w.heap.size + 1, 0, none⟩ (.int .i64 0)).setCell ⟨w.heap.size + 1, 1, none⟩ (.int .i64 0))) (fun p hp => World.cell?_setCell_other _ _ _ _ (fun e => by rw [← e] at hp; exact absurd (show w.heap.size + 1 < B2 from hp) (by omega)))).keep (w' := (((W5.setCell ⟨w.heap.size + 1, 0, none⟩ (.int .i64 0)).setCell ⟨w.heap.size + 1, 1, none⟩ (.int .i64 0)).setCell ⟨w.heap.size + 1, 2, none⟩ (.slice none 0 0))) (fun p hp => World.cell?_setCell_other _ _ _ _ (fun e => by rw [← e] at hp; exact absurd (show w.heap.size + 1 < B2 from hp) (by omega)))).keep (w' := ((((W5.setCell ⟨w.heap.size + 1, 0, none⟩ (.int .i64 0)).setCell ⟨w.heap.size + 1, 1, none⟩ (.int .i64 0)).setCell ⟨w.heap.size + 1, 2, none⟩ (.slice none 0 0)).setCell ⟨w.heap.size + 1, 3, none⟩ (.int .i64 0))) (fun p hp => World.cell?_setCell_other _ _ _ _ (fun e => by rw [← e] at hp; exact absurd (show w.heap.size + 1 < B2 from hp) (by omega)))).keep (w' := (((((W5.setCell ⟨w.heap.size + 1, 0, none⟩ (.int .i64 0)).setCell ⟨w.heap.size + 1, 1, none⟩ (.int .i64 0)).setCell ⟨w.heap.size + 1, 2, none⟩ (.slice none 0 0)).setCell ⟨w.heap.size + 1, 3, none⟩ (.int .i64 0)).setCell ⟨w.heap.size + 1, 4, none⟩ (.int .i64 0))) (fun p hp => World.cell?_setCell_other _ _ _ _ (fun e => by rw [← e] at hp; exact absurd (show w.heap.size + 1 < B2 from hp) (by omega)))).keep (w' := ((((((W5.setCell ⟨w.heap.size + 1, 0, none⟩ (.int .i64 0)).setCell ⟨w.heap.size + 1, 1, none⟩ (.int .i64 0)).setCell ⟨w.heap.size + 1, 2, none⟩ (.slice none 0 0)).setCell ⟨w.heap.size + 1, 3, none⟩ (.int .i64 0)).setCell ⟨w.heap.size + 1, 4, none⟩ (.int .i64 0)).setCell ⟨w.heap.size + 1, 5, none⟩ (.slice none 0 0))) (fun p hp => World.cell?_setCell_other _ _ _ _ (fun e => by rw [← e] at hp; exact absurd (show w.heap.size + 1 < B2 from hp) (by omega))))
      have So_6 := Lib.hid ((((((So_5.out.keep (w' := (W5.setCell ⟨w.heap.size + 1, 0, none⟩ (.int .i64 0))) (fun p hp => World.cell?_setCell_other _ _ _ _ (fun e => by rw [← e] at hp; exact absurd (show w.heap.size + 1 < Bo from hp) (by omega)))).keep (w' := ((W5.setCell ⟨w.heap.size + 1, 0, none⟩ (.int .i64 0)).setCell ⟨w.heap.size + 1, 1, none⟩ (.int .i64 0))) (fun p hp => World.cell?_setCell_other _ _ _ _ (fun e => by rw [← e] at hp; exact absurd (show w.heap.size + 1 < Bo from hp) (by omega)))).keep (w' := (((W5.setCell ⟨w.heap.size + 1, 0, none⟩ (.int .i64 0)).setCell ⟨w.heap.size + 1, 1, none⟩ (.int .i64 0)).setCell ⟨w.heap.size + 1, 2, none⟩ (.slice none 0 0))) (fun p hp => World.cell?_setCell_other _ _ _ _ (fun e => by rw [← e] at hp; exact absurd (show w.heap.size + 1 < Bo from hp) (by omega)))).keep (w' := ((((W5.setCell ⟨w.heap.size + 1, 0, none⟩ (.int .i64 0)).setCell ⟨w.heap.size + 1, 1, none⟩ (.int .i64 0)).setCell ⟨w.heap.size + 1, 2, none⟩ (.slice none 0 0)).setCell ⟨w.heap.size + 1, 3, none⟩ (.int .i64 0))) (fun p hp => World.cell?_setCell_other _ _ _ _ (fun e => by rw [← e] at hp; exact absurd (show w.heap.size + 1 < Bo from hp) (by omega)))).keep (w' := (((((W5.setCell ⟨w.heap.size + 1, 0, none⟩ (.int .i64 0)).setCell ⟨w.heap.size + 1, 1, none⟩ (.int .i64 0)).setCell ⟨w.heap.size + 1, 2, none⟩ (.slice none 0 0)).setCell ⟨w.heap.size + 1, 3, none⟩ (.int .i64 0)).setCell ⟨w.heap.size + 1, 4, none⟩ (.int .i64 0))) (fun p hp => World.cell?_setCell_other _ _ _ _ (fun e => by rw [← e] at hp; exact absurd (show w.heap.size + 1 < Bo from hp) (by omega)))).keep (w' := ((((((W5.setCell ⟨w.heap.size + 1, 0, none⟩ (.int .i64 0)).setCell ⟨w.heap.size + 1, 1, none⟩ (.int .i64 0)).setCell ⟨w.heap.size + 1, 2, none⟩ (.slice none 0 0)).setCell ⟨w.heap.size + 1, 3, none⟩ (.int .i64 0)).setCell ⟨w.heap.size + 1, 4, none⟩ (.int .i64 0)).setCell ⟨w.heap.size + 1, 5, none⟩ (.slice none 0 0))) (fun p hp => World.cell?_setCell_other _ _ _ _ (fun e => by rw [← e] at hp; exact absurd (show w.heap.size + 1 < Bo from hp) (by omega))))
      have HB_6 := Lib.hid ((((((HB_5.out.setCell (p := ⟨w.heap.size + 1, 0, none⟩) (show w.heap.size ≤ w.heap.size + 1 by omega) (.int .i64 0)).setCell (p := ⟨w.heap.size + 1, 1, none⟩) (show w.heap.size ≤ w.heap.size + 1 by omega) (.int .i64 0)).setCell (p := ⟨w.heap.size + 1, 2, none⟩) (show w.heap.size ≤ w.heap.size + 1 by omega) (.slice none 0 0)).setCell (p := ⟨w.heap.size + 1, 3, none⟩) (show w.heap.size ≤ w.heap.size + 1 by omega) (.int .i64 0)).setCell (p := ⟨w.heap.size + 1, 4, none⟩) (show w.heap.size ≤ w.heap.size + 1 by omega) (.int .i64 0)).setCell (p := ⟨w.heap.size + 1, 5, none⟩) (show w.heap.size ≤ w.heap.size + 1 by omega) (.slice none 0 0))
      have z6 : ((((((W5.setCell ⟨w.heap.size + 1, 0, none⟩ (.int .i64 0)).setCell ⟨w.heap.size + 1, 1, none⟩ (.int .i64 0)).setCell ⟨w.heap.size + 1, 2, none⟩ (.slice none 0 0)).setCell ⟨w.heap.size + 1, 3, none⟩ (.int .i64 0)).setCell ⟨w.heap.size + 1, 4, none⟩ (.int .i64 0)).setCell ⟨w.heap.size + 1, 5, none⟩ (.slice none 0 0)).heap.size = W5.heap.size := by simp
      go_wp2_with fail
      obtain ⟨W6, hW6⟩ : ∃ W, ((((((W5.setCell ⟨w.heap.size + 1, 0, none⟩ (.int .i64 0)).setCell ⟨w.heap.size + 1, 1, none⟩ (.int .i64 0)).setCell ⟨w.heap.size + 1, 2, none⟩ (.slice none 0 0)).setCell ⟨w.heap.size + 1, 3, none⟩ (.int .i64 0)).setCell ⟨w.heap.size + 1, 4, none⟩ (.int .i64 0)).setCell ⟨w.heap.size + 1, 5, none⟩ (.slice none 0 0)) = W := ⟨_, rfl⟩
      rw [hW6] at K3_6 K6_6 K8_6 Ru_6 Rf_6 Sa_6 Sb_6 So_6 HB_6 z6 ⊢
      replace z6 := And.intro (Nat.le_of_eq z6) (Nat.le_of_eq z6.symm)
      clear x30 x31 x32 x33 x34 x35 xf30 xf31 xf32 xf33 xf34 xf35 x3lt x60 x61 x62 x63 x64 x65 xf60 xf61 xf62 xf63 xf64 xf65 x6lt x80 x81 x82 xf80 xf81 xf82 x8lt
      clear hW6 K3_5 K6_5 K8_5 Ru_5 Rf_5 Sa_5 Sb_5 So_5 HB_5
      obtain ⟨z0', z1', z2', z3', z4', z5', _, _, _, _, _, _, _⟩ := K6_6.out
      refine bodyPost_ret (v := .tuple #[smV 0 0 (.slice none 0 0) 0 0 (.slice none 0 0), .int .i64 0]) (by simp [results, Try.results27, go_sem, z0', z1', z2', z3', z4', z5']) rfl ?_
      exact ⟨rfl, HB_6.out⟩
    · obtain rfl := hpr0 hr
      clear h ho hr hpr0 hpr1
      have q3 := (Cell6.new (w) (.int .i64 r) (.int .i64 c) (.slice A zs.length cap) (.int .i64 r2) (.int .i64 c2) (.slice A2 ks.length cap2) 47).alloc (.cells #[.int .i64 0, .int .i64 0, .slice none 0 0, .int .i64 0, .int .i64 0, .slice none 0 0] 47)
      have q6 := Cell6.new (w.alloc (.cells #[.int .i64 r, .int .i64 c, .slice A zs.length cap, .int .i64 r2, .int .i64 c2, .slice A2 ks.length cap2] 47)) (.int .i64 0) (.int .i64 0) (.slice none 0 0) (.int .i64 0) (.int .i64 0) (.slice none 0 0) 47
      have hb : Below w.heap.size w ((w.alloc (.cells #[.int .i64 r, .int .i64 c, .slice A zs.length cap, .int .i64 r2, .int .i64 c2, .slice A2 ks.length cap2] 47)).alloc (.cells #[.int .i64 0, .int .i64 0, .slice none 0 0, .int .i64 0, .int .i64 0, .slice none 0 0] 47)) := ((Below.refl _ _).alloc (Nat.le_refl _) _).alloc (by simp) _
      have hsz : ((w.alloc (.cells #[.int .i64 r, .int .i64 c, .slice A zs.length cap, .int .i64 r2, .int .i64 c2, .slice A2 ks.length cap2] 47)).alloc (.cells #[.int .i64 0, .int .i64 0, .slice none 0 0, .int .i64 0, .int .i64 0, .slice none 0 0] 47)).heap.size = w.heap.size + 2 := by simp
      simp only [World.size_alloc] at q6
      obtain ⟨W0, hW⟩ : ∃ W, (w.alloc (.cells #[.int .i64 r, .int .i64 c, .slice A zs.length cap, .int .i64 r2, .int .i64 c2, .slice A2 ks.length cap2] 47)).alloc (.cells #[.int .i64 0, .int .i64 0, .slice none 0 0, .int .i64 0, .int .i64 0, .slice none 0 0] 47) = W := ⟨_, rfl⟩
      rw [hW] at q3 q6 hb hsz
      replace hsz := And.intro (Nat.le_of_eq hsz) (Nat.le_of_eq hsz.symm)
      have K3_0 := Lib.hid q3
      have K6_0 := Lib.hid q6
      have Sa_0 := Lib.hid (hs.below hb hB)
      have Sb_0 := Lib.hid (hs2.below hb hB2)
      have So_0 := Lib.hid (hso.below hb hBo)
      have HB_0 := Lib.hid hb
      clear hb q3 q6 hs hs2 hso
      go_enter Try.func27, Try.ntmps27
      obtain ⟨x30, x31, x32, x33, x34, x35, xf30, xf31, xf32, xf33, xf34, xf35, x3lt⟩ := K3_0.out
      obtain ⟨x60, x61, x62, x63, x64, x65, xf60, xf61, xf62, xf63, xf64, xf65, x6lt⟩ := K6_0.out
      go_wp2_with fail
      refine (ownS_any r c A cap _ B zs r2 c2 A2 cap2 _ B2 ks W0 Sa_0.out (by omega) rfl hn Sb_0.out (by omega) rfl hn2).mono ?_
      rintro e W1 ⟨sv1, tv1, rfl, hr, hb⟩
      obtain ⟨Au, cu, Bu, du, rfl, rfl, hcp1, hcp2⟩ := hr.form
      have HCPu := Lib.hid (And.intro hcp1 hcp2)
      clear hcp1 hcp2
      clear x30 x31 x32 x33 x34 x35 xf30 xf31 xf32 xf33 xf34 xf35 x3lt x60 x61 x62 x63 x64 x65 xf60 xf61 xf62 xf63 xf64 xf65 x6lt
      have s1 := hb.size
      have K3_1 := Lib.hid (K3_0.out.below hb (show w.heap.size < W0.heap.size by omega))
      have K6_1 := Lib.hid (K6_0.out.below hb (show w.heap.size + 1 < W0.heap.size by omega))
      have Sa_1 := Lib.hid (Sa_0.out.below hb (show B ≤ W0.heap.size by omega))
      have Sb_1 := Lib.hid (Sb_0.out.below hb (show B2 ≤ W0.heap.size by omega))
      have So_1 := Lib.hid (So_0.out.below hb (show Bo ≤ W0.heap.size by omega))
      have HB_1 := Lib.hid (HB_0.out.trans (hb.mono (show w.heap.size ≤ W0.heap.size by omega)))
      clear K3_0 K6_0 Sa_0 Sb_0 So_0 HB_0 hb hW
      have Ru_1 := Lib.hid hr
      clear hr
      have K3_2 := Lib.hid ((((((K3_1.out.set0 (.int .i64 r)).set1 (.int .i64 c)).set2 (.slice Au zs.length cu)).set3 (.int .i64 r2)).set4 (.int .i64 c2)).set5 (.slice Bu ks.length du))
      have K6_2 := Lib.hid ((((((K6_1.out.far (a := ⟨w.heap.size, 0, none⟩) (show w.heap.size + 1 ≠ w.heap.size by omega) (.int .i64 r)).far (a := ⟨w.heap.size, 1, none⟩) (show w.heap.size + 1 ≠ w.heap.size by omega) (.int .i64 c)).far (a := ⟨w.heap.size, 2, none⟩) (show w.heap.size + 1 ≠ w.heap.size by omega) (.slice Au zs.length cu)).far (a := ⟨w.heap.size, 3, none⟩) (show w.heap.size + 1 ≠ w.heap.size by omega) (.int .i64 r2)).far (a := ⟨w.heap.size, 4, none⟩) (show w.heap.size + 1 ≠ w.heap.size by omega) (.int .i64 c2)).far (a := ⟨w.heap.size, 5, none⟩) (show w.heap.size + 1 ≠ w.heap.size by omega) (.slice Bu ks.length du))
      have Ru_2 := Lib.hid ((((((Ru_1.out.grown (set_grown _ (w.heap.size) 0 (.int .i64 r)) (fun g e => by cases e; omega)).grown (set_grown _ (w.heap.size) 1 (.int .i64 c)) (fun g e => by cases e; omega)).grown (set_grown _ (w.heap.size) 2 (.slice Au zs.length cu)) (fun g e => by cases e; omega)).grown (set_grown _ (w.heap.size) 3 (.int .i64 r2)) (fun g e => by cases e; omega)).grown (set_grown _ (w.heap.size) 4 (.int .i64 c2)) (fun g e => by cases e; omega)).grown (set_grown _ (w.heap.size) 5 (.slice Bu ks.length du)) (fun g e => by cases e; omega))
      have Sa_2 := Lib.hid ((((((Sa_1.out.keep (w' := (W1.setCell ⟨w.heap.size, 0, none⟩ (.int .i64 r))) (fun p hp => World.cell?_setCell_other _ _ _ _ (fun e => by rw [← e] at hp; exact absurd (show w.heap.size < B from hp) (by omega)))).keep (w' := ((W1.setCell ⟨w.heap.size, 0, none⟩ (.int .i64 r)).setCell ⟨w.heap.size, 1, none⟩ (.int .i64 c))) (fun p hp => World.cell?_setCell_other _ _ _ _ (fun e => by rw [← e] at hp; exact absurd (show w.heap.size < B from hp) (by omega)))).keep (w' := (((W1.setCell ⟨w.heap.size, 0, none⟩ (.int .i64 r)).setCell ⟨w.heap.size, 1, none⟩ (.int .i64 c)).setCell ⟨w.heap.size, 2, none⟩ (.slice Au zs.length cu))) (fun p hp => World.cell?_setCell_other _ _ _ _ (fun e => by rw [← e] at hp; exact absurd (show w.heap.size < B from hp) (by omega)))).keep (w' := ((((W1.setCell ⟨w.heap.size, 0, none⟩ (.int .i64 r)).setCell ⟨w.heap.size, 1, none⟩ (.int .i64 c)).setCell ⟨w.heap.size, 2, none⟩ (.slice Au zs.length cu)).setCell ⟨w.heap.size, 3, none⟩ (.int .i64 r2))) (fun p hp => World.cell?_setCell_other _ _ _ _ (fun e => by rw [← e] at hp; exact absurd (show w.heap.size < B from hp) (by omega)))).keep (w' := (((((W1.setCell ⟨w.heap.size, 0, none⟩ (.int .i64 r)).setCell ⟨w.heap.size, 1, none⟩ (.int .i64 c)).setCell ⟨w.heap.size, 2, none⟩ (.slice Au zs.length cu)).setCell ⟨w.heap.size, 3, none⟩ (.int .i64 r2)).setCell ⟨w.heap.size, 4, none⟩ (.int .i64 c2))) (fun p hp => World.cell?_setCell_other _ _ _ _ (fun e => by rw [← e] at hp; exact absurd (show w.heap.size < B from hp) (by omega)))).keep (w' := ((((((W1.setCell ⟨w.heap.size, 0, none⟩ (.int .i64 r)).setCell ⟨w.heap.size, 1, none⟩ (.int .i64 c)).setCell ⟨w.heap.size, 2, none⟩ (.slice Au zs.length cu)).setCell ⟨w.heap.size, 3, none⟩ (.int .i64 r2)).setCell ⟨w.heap.size, 4, none⟩ (.int .i64 c2)).setCell ⟨w.heap.size, 5, none⟩ (.slice Bu ks.length du))) (fun p hp => World.cell?_setCell_other _ _ _ _ (fun e => by rw [← e] at hp; exact absurd (show w.heap.size < B from hp) (by omega))))
      have Sb_2 := Lib.hid ((((((Sb_1.out.keep (w' := (W1.setCell ⟨w.heap.size, 0, none⟩ (.int .i64 r))) (fun p hp => World.cell?_setCell_other _ _ _ _ (fun e => by rw [← e] at hp; exact absurd (show w.heap.size < B2 from hp) (by omega)))).keep (w' := ((W1.setCell ⟨w.heap.size, 0, none⟩ (.int .i64 r)).setCell ⟨w.heap.size, 1, none⟩ (.int .i64 c))) (fun p hp => World.cell?_setCell_other _ _ _ _ (fun e => by rw [← e] at hp; exact absurd (show w.heap.size < B2 from hp) (by omega)))).keep (w' := (((W1.setCell ⟨w.heap.size, 0, none⟩ (.int .i64 r)).setCell ⟨w.heap.size, 1, none⟩ (.int .i64 c)).setCell ⟨w.heap.size, 2, none⟩ (.slice Au zs.length cu))) (fun p hp => World.cell?_setCell_other _ _ _ _ (fun e => by rw [← e] at hp; exact absurd (show w.heap.size < B2 from hp) (by omega)))).keep (w' := ((((W1.setCell ⟨w.heap.size, 0, none⟩ (.int .i64 r)).setCell ⟨w.heap.size, 1, none⟩ (.int .i64 c)).setCell ⟨w.heap.size, 2, none⟩ (.slice Au zs.length cu)).setCell ⟨w.heap.size, 3, none⟩ (.int .i64 r2))) (fun p hp => World.cell?_setCell_other _ _ _ _ (fun e => by rw [← e] at hp; exact absurd (show w.heap.size < B2 from hp) (by omega)))).keep (w' := (((((W1.setCell ⟨w.heap.size, 0, none⟩ (.int .i64 r)).setCell ⟨w.heap.size, 1, none⟩ (.int .i64 c)).setCell ⟨w.heap.size, 2, none⟩ (.slice Au zs.length cu)).setCell ⟨w.heap.size, 3, none⟩ (.int .i64 r2)).setCell ⟨w.heap.size, 4, none⟩ (.int .i64 c2))) (fun p hp => World.cell?_setCell_other _ _ _ _ (fun e => by rw [← e] at hp; exact absurd (show w.heap.size < B2 from hp) (by omega)))).keep (w' := ((((((W1.setCell ⟨w.heap.size, 0, none⟩ (.int .i64 r)).setCell ⟨w.heap.size, 1, none⟩ (.int .i64 c)).setCell ⟨w.heap.size, 2, none⟩ (.slice Au zs.length cu)).setCell ⟨w.heap.size, 3, none⟩ (.int .i64 r2)).setCell ⟨w.heap.size, 4, none⟩ (.int .i64 c2)).setCell ⟨w.heap.size, 5, none⟩ (.slice Bu ks.length du))) (fun p hp => World.cell?_setCell_other _ _ _ _ (fun e => by rw [← e] at hp; exact absurd (show w.heap.size < B2 from hp) (by omega))))
      have So_2 := Lib.hid ((((((So_1.out.keep (w' := (W1.setCell ⟨w.heap.size, 0, none⟩ (.int .i64 r))) (fun p hp => World.cell?_setCell_other _ _ _ _ (fun e => by rw [← e] at hp; exact absurd (show w.heap.size < Bo from hp) (by omega)))).keep (w' := ((W1.setCell ⟨w.heap.size, 0, none⟩ (.int .i64 r)).setCell ⟨w.heap.size, 1, none⟩ (.int .i64 c))) (fun p hp => World.cell?_setCell_other _ _ _ _ (fun e => by rw [← e] at hp; exact absurd (show w.heap.size < Bo from hp) (by omega)))).keep (w' := (((W1.setCell ⟨w.heap.size, 0, none⟩ (.int .i64 r)).setCell ⟨w.heap.size, 1, none⟩ (.int .i64 c)).setCell ⟨w.heap.size, 2, none⟩ (.slice Au zs.length cu))) (fun p hp => World.cell?_setCell_other _ _ _ _ (fun e => by rw [← e] at hp; exact absurd (show w.heap.size < Bo from hp) (by omega)))).keep (w' := ((((W1.setCell ⟨w.heap.size, 0, none⟩ (.int .i64 r)).setCell ⟨w.heap.size, 1, none⟩ (.int .i64 c)).setCell ⟨w.heap.size, 2, none⟩ (.slice Au zs.length cu)).setCell ⟨w.heap.size, 3, none⟩ (.int .i64 r2))) (fun p hp => World.cell?_setCell_other _ _ _ _ (fun e => by rw [← e] at hp; exact absurd (show w.heap.size < Bo from hp) (by omega)))).keep (w' := (((((W1.setCell ⟨w.heap.size, 0, none⟩ (.int .i64 r)).setCell ⟨w.heap.size, 1, none⟩ (.int .i64 c)).setCell ⟨w.heap.size, 2, none⟩ (.slice Au zs.length cu)).setCell ⟨w.heap.size, 3, none⟩ (.int .i64 r2)).setCell ⟨w.heap.size, 4, none⟩ (.int .i64 c2))) (fun p hp => World.cell?_setCell_other _ _ _ _ (fun e => by rw [← e] at hp; exact absurd (show w.heap.size < Bo from hp) (by omega)))).keep (w' := ((((((W1.setCell ⟨w.heap.size, 0, none⟩ (.int .i64 r)).setCell ⟨w.heap.size, 1, none⟩ (.int .i64 c)).setCell ⟨w.heap.size, 2, none⟩ (.slice Au zs.length cu)).setCell ⟨w.heap.size, 3, none⟩ (.int .i64 r2)).setCell ⟨w.heap.size, 4, none⟩ (.int .i64 c2)).setCell ⟨w.heap.size, 5, none⟩ (.slice Bu ks.length du))) (fun p hp => World.cell?_setCell_other _ _ _ _ (fun e => by rw [← e] at hp; exact absurd (show w.heap.size < Bo from hp) (by omega))))
      have HB_2 := Lib.hid ((((((HB_1.out.setCell (p := ⟨w.heap.size, 0, none⟩) (show w.heap.size ≤ w.heap.size by omega) (.int .i64 r)).setCell (p := ⟨w.heap.size, 1, none⟩) (show w.heap.size ≤ w.heap.size by omega) (.int .i64 c)).setCell (p := ⟨w.heap.size, 2, none⟩) (show w.heap.size ≤ w.heap.size by omega) (.slice Au zs.length cu)).setCell (p := ⟨w.heap.size, 3, none⟩) (show w.heap.size ≤ w.heap.size by omega) (.int .i64 r2)).setCell (p := ⟨w.heap.size, 4, none⟩) (show w.heap.size ≤ w.heap.size by omega) (.int .i64 c2)).setCell (p := ⟨w.heap.size, 5, none⟩) (show w.heap.size ≤ w.heap.size by omega) (.slice Bu ks.length du))
      have z2 : ((((((W1.setCell ⟨w.heap.size, 0, none⟩ (.int .i64 r)).setCell ⟨w.heap.size, 1, none⟩ (.int .i64 c)).setCell ⟨w.heap.size, 2, none⟩ (.slice Au zs.length cu)).setCell ⟨w.heap.size, 3, none⟩ (.int .i64 r2)).setCell ⟨w.heap.size, 4, none⟩ (.int .i64 c2)).setCell ⟨w.heap.size, 5, none⟩ (.slice Bu ks.length du)).heap.size = W1.heap.size := by simp
      obtain ⟨x30, x31, x32, x33, x34, x35, xf30, xf31, xf32, xf33, xf34, xf35, x3lt⟩ := K3_1.out
      obtain ⟨x60, x61, x62, x63, x64, x65, xf60, xf61, xf62, xf63, xf64, xf65, x6lt⟩ := K6_1.out
      go_wp2_with fail
      obtain ⟨W2, hW2⟩ : ∃ W, ((((((W1.setCell ⟨w.heap.size, 0, none⟩ (.int .i64 r)).setCell ⟨w.heap.size, 1, none⟩ (.int .i64 c)).setCell ⟨w.heap.size, 2, none⟩ (.slice Au zs.length cu)).setCell ⟨w.heap.size, 3, none⟩ (.int .i64 r2)).setCell ⟨w.heap.size, 4, none⟩ (.int .i64 c2)).setCell ⟨w.heap.size, 5, none⟩ (.slice Bu ks.length du)) = W := ⟨_, rfl⟩
      rw [hW2] at K3_2 K6_2 Ru_2 Sa_2 Sb_2 So_2 HB_2 z2 ⊢
      replace z2 := And.intro (Nat.le_of_eq z2) (Nat.le_of_eq z2.symm)
      clear x30 x31 x32 x33 x34 x35 xf30 xf31 xf32 xf33 xf34 xf35 x3lt x60 x61 x62 x63 x64 x65 xf60 xf61 xf62 xf63 xf64 xf65 x6lt
      clear hW2 K3_1 K6_1 Ru_1 Sa_1 Sb_1 So_1 HB_1
      refine (specOrd_any r c Au cu _ W2.heap.size zs Ao co _ Bo os W2 (Ru_2.out.sl1.more (show W1.heap.size ≤ W2.heap.size by omega)) (Nat.le_refl _) rfl hn So_2.out (by omega) rfl hno).mono ?_
      rintro e W3 ⟨sv3, rfl, hr, hb⟩
      rw [HP.out.1, HP.out.2.1]
      rw [HP.out.2.2] at hr
      obtain ⟨Af, cf, rfl, hcp1, hcp2, _⟩ := hr.form
      have HCPf := Lib.hid (And.intro hcp1 hcp2)
      clear hcp1 hcp2
      have s3 := hb.size
      have K3_3 := Lib.hid (K3_2.out.below hb (show w.heap.size < W2.heap.size by omega))
      have K6_3 := Lib.hid (K6_2.out.below hb (show w.heap.size + 1 < W2.heap.size by omega))
      have Ru_3 := Lib.hid (Ru_2.out.below hb (show W1.heap.size ≤ W2.heap.size by omega))
      have Sa_3 := Lib.hid (Sa_2.out.below hb (show B ≤ W2.heap.size by omega))
      have Sb_3 := Lib.hid (Sb_2.out.below hb (show B2 ≤ W2.heap.size by omega))
      have So_3 := Lib.hid (So_2.out.below hb (show Bo ≤ W2.heap.size by omega))
      have HB_3 := Lib.hid (HB_2.out.trans (hb.mono (show w.heap.size ≤ W2.heap.size by omega)))
      clear K3_2 K6_2 Ru_2 Sa_2 Sb_2 So_2 HB_2 hb
      have Rf_3 := Lib.hid hr
      clear hr
      have kn := Cell3.new W3 (.int .i64 0) (.int .i64 pc) (.slice Af ps.length cf) 33
      obtain ⟨W4, hW4⟩ : ∃ W, W3.alloc (.cells #[.int .i64 0, .int .i64 pc, .slice Af ps.length cf] 33) = W := ⟨_, rfl⟩
      rw [hW4] at kn
      have z4 : W4.heap.size = W3.heap.size + 1 := by rw [← hW4]; simp
      replace z4 := And.intro (Nat.le_of_eq z4) (Nat.le_of_eq z4.symm)
      have hal : Below W3.heap.size W3 W4 := hW4 ▸ (Below.refl _ _).alloc (Nat.le_refl _) _
      have s4 := hal.size
      have K3_4 := Lib.hid (K3_3.out.below hal (show w.heap.size < W3.heap.size by omega))
      have K6_4 := Lib.hid (K6_3.out.below hal (show w.heap.size + 1 < W3.heap.size by omega))
      have Ru_4 := Lib.hid (Ru_3.out.below hal (show W1.heap.size ≤ W3.heap.size by omega))
      have Rf_4 := Lib.hid (Rf_3.out.below hal (show W3.heap.size ≤ W3.heap.size by omega))
      have Sa_4 := Lib.hid (Sa_3.out.below hal (show B ≤ W3.heap.size by omega))
      have Sb_4 := Lib.hid (Sb_3.out.below hal (show B2 ≤ W3.heap.size by omega))
      have So_4 := Lib.hid (So_3.out.below hal (show Bo ≤ W3.heap.size by omega))
      have HB_4 := Lib.hid (HB_3.out.trans (hal.mono (show w.heap.size ≤ W3.heap.size by omega)))
      clear K3_3 K6_3 Ru_3 Rf_3 Sa_3 Sb_3 So_3 HB_3 hal
      have K8_4 := Lib.hid kn
      clear kn
      obtain ⟨x30, x31, x32, x33, x34, x35, xf30, xf31, xf32, xf33, xf34, xf35, x3lt⟩ := K3_4.out
      obtain ⟨x60, x61, x62, x63, x64, x65, xf60, xf61, xf62, xf63, xf64, xf65, x6lt⟩ := K6_4.out
      obtain ⟨x80, x81, x82, xf80, xf81, xf82, x8lt⟩ := K8_4.out
      go_wp2_with fail
      refine (specSMV_any r c Au cu _ W4.heap.size zs r2 c2 Bu du _ W4.heap.size ks W4 (Ru_4.out.sl1.more (show W1.heap.size ≤ W4.heap.size by omega)) (Nat.le_refl _) rfl hn (Ru_4.out.sl2.more (show W1.heap.size ≤ W4.heap.size by omega)) (Nat.le_refl _) rfl hn2 true ⟨fun _ => HO.out, fun _ => rfl⟩).mono ?_
      rintro e W5 ⟨rfl, hb⟩
      clear x30 x31 x32 x33 x34 x35 xf30 xf31 xf32 xf33 xf34 xf35 x3lt x60 x61 x62 x63 x64 x65 xf60 xf61 xf62 xf63 xf64 xf65 x6lt x80 x81 x82 xf80 xf81 xf82 x8lt
      have s5 := hb.size
      have K3_5 := Lib.hid (K3_4.out.below hb (show w.heap.size < W4.heap.size by omega))
      have K6_5 := Lib.hid (K6_4.out.below hb (show w.heap.size + 1 < W4.heap.size by omega))
      have K8_5 := Lib.hid (K8_4.out.below hb (show W3.heap.size < W4.heap.size by omega))
      have Ru_5 := Lib.hid (Ru_4.out.below hb (show W1.heap.size ≤ W4.heap.size by omega))
      have Rf_5 := Lib.hid (Rf_4.out.below hb (show W3.heap.size ≤ W4.heap.size by omega))
      have Sa_5 := Lib.hid (Sa_4.out.below hb (show B ≤ W4.heap.size by omega))
      have Sb_5 := Lib.hid (Sb_4.out.below hb (show B2 ≤ W4.heap.size by omega))
      have So_5 := Lib.hid (So_4.out.below hb (show Bo ≤ W4.heap.size by omega))
      have HB_5 := Lib.hid (HB_4.out.trans (hb.mono (show w.heap.size ≤ W4.heap.size by omega)))
      clear K3_4 K6_4 K8_4 Ru_4 Rf_4 Sa_4 Sb_4 So_4 HB_4 hb
      have K3_6 := Lib.hid ((((((K3_5.out.far (a := ⟨w.heap.size + 1, 0, none⟩) (show w.heap.size ≠ w.heap.size + 1 by omega) (.int .i64 0)).far (a := ⟨w.heap.size + 1, 1, none⟩) (show w.heap.size ≠ w.heap.size + 1 by omega) (.int .i64 0)).far (a := ⟨w.heap.size + 1, 2, none⟩) (show w.heap.size ≠ w.heap.size + 1 by omega) (.slice none 0 0)).far (a := ⟨w.heap.size + 1, 3, none⟩) (show w.heap.size ≠ w.heap.size + 1 by omega) (.int .i64 0)).far (a := ⟨w.heap.size + 1, 4, none⟩) (show w.heap.size ≠ w.heap.size + 1 by omega) (.int .i64 0)).far (a := ⟨w.heap.size + 1, 5, none⟩) (show w.heap.size ≠ w.heap.size + 1 by omega) (.slice none 0 0))
      have K6_6 := Lib.hid ((((((K6_5.out.set0 (.int .i64 0)).set1 (.int .i64 0)).set2 (.slice none 0 0)).set3 (.int .i64 0)).set4 (.int .i64 0)).set5 (.slice none 0 0))
      have K8_6 := Lib.hid ((((((K8_5.out.far (a := ⟨w.heap.size + 1, 0, none⟩) (show W3.heap.size ≠ w.heap.size + 1 by omega) (.int .i64 0)).far (a := ⟨w.heap.size + 1, 1, none⟩) (show W3.heap.size ≠ w.heap.size + 1 by omega) (.int .i64 0)).far (a := ⟨w.heap.size + 1, 2, none⟩) (show W3.heap.size ≠ w.heap.size + 1 by omega) (.slice none 0 0)).far (a := ⟨w.heap.size + 1, 3, none⟩) (show W3.heap.size ≠ w.heap.size + 1 by omega) (.int .i64 0)).far (a := ⟨w.heap.size + 1, 4, none⟩) (show W3.heap.size ≠ w.heap.size + 1 by omega) (.int .i64 0)).far (a := ⟨w.heap.size + 1, 5, none⟩) (show W3.heap.size ≠ w.heap.size + 1 by omega) (.slice none 0 0))
      have Ru_6 := Lib.hid ((((((Ru_5.out.grown (set_grown _ (w.heap.size + 1) 0 (.int .i64 0)) (fun g e => by cases e; omega)).grown (set_grown _ (w.heap.size + 1) 1 (.int .i64 0)) (fun g e => by cases e; omega)).grown (set_grown _ (w.heap.size + 1) 2 (.slice none 0 0)) (fun g e => by cases e; omega)).grown (set_grown _ (w.heap.size + 1) 3 (.int .i64 0)) (fun g e => by cases e; omega)).grown (set_grown _ (w.heap.size + 1) 4 (.int .i64 0)) (fun g e => by cases e; omega)).grown (set_grown _ (w.heap.size + 1) 5 (.slice none 0 0)) (fun g e => by cases e; omega))
      have Rf_6 := Lib.hid ((((((Rf_5.out.grown (set_grown _ (w.heap.size + 1) 0 (.int .i64 0)) (fun g e => by cases e; omega)).grown (set_grown _ (w.heap.size + 1) 1 (.int .i64 0)) (fun g e => by cases e; omega)).grown (set_grown _ (w.heap.size + 1) 2 (.slice none 0 0)) (fun g e => by cases e; omega)).grown (set_grown _ (w.heap.size + 1) 3 (.int .i64 0)) (fun g e => by cases e; omega)).grown (set_grown _ (w.heap.size + 1) 4 (.int .i64 0)) (fun g e => by cases e; omega)).grown (set_grown _ (w.heap.size + 1) 5 (.slice none 0 0)) (fun g e => by cases e; omega))
      have Sa_6 := Lib.hid ((((((Sa_5.out.keep (w' := (W5.setCell ⟨w.heap.size + 1, 0, none⟩ (.int .i64 0))) (fun p hp => World.cell?_setCell_other _ _ _ _ (fun e => by rw [← e] at hp; exact absurd (show w.heap.size + 1 < B from hp) (by omega)))).keep (w' := ((W5.setCell ⟨w.heap.size + 1, 0, none⟩ (.int .i64 0)).setCell ⟨w.heap.size + 1, 1, none⟩ (.int .i64 0))) (fun p hp => World.cell?_setCell_other _ _ _ _ (fun e => by rw [← e] at hp; exact absurd (show w.heap.size + 1 < B from hp) (by omega)))).keep (w' := (((W5.setCell ⟨w.heap.size + 1, 0, none⟩ (.int .i64 0)).setCell ⟨w.heap.size + 1, 1, none⟩ (.int .i64 0)).setCell ⟨w.heap.size + 1, 2, none⟩ (.slice none 0 0))) (fun p hp => World.cell?_setCell_other _ _ _ _ (fun e => by rw [← e] at hp; exact absurd (show w.heap.size + 1 < B from hp) (by omega)))).keep (w' := ((((W5.setCell ⟨w.heap.size + 1, 0, none⟩ (.int .i64 0)).setCell ⟨w.heap.size + 1, 1, none⟩ (.int .i64 0)).setCell ⟨w.heap.size + 1, 2, none⟩ (.slice none 0 0)).setCell ⟨w.heap.size + 1, 3, none⟩ (.int .i64 0))) (fun p hp => World.cell?_setCell_other _ _ _ _ (fun e => by rw [← e] at hp; exact absurd (show w.heap.size + 1 < B from hp) (by omega)))).keep (w' := (((((W5.setCell ⟨w.heap.size + 1, 0, none⟩ (.int .i64 0)).setCell ⟨w.heap.size + 1, 1, none⟩ (.int .i64 0)).setCell ⟨w.heap.size + 1, 2, none⟩ (.slice none 0 0)).setCell ⟨w.heap.size + 1, 3, none⟩ (.int .i64 0)).setCell ⟨w.heap.size + 1, 4, none⟩ (.int .i64 0))) (fun p hp => World.cell?_setCell_other _ _ _ _ (fun e => by rw [← e] at hp; exact absurd (show w.heap.size + 1 < B from hp) (by omega)))).keep (w' := ((((((W5.setCell ⟨w.heap.size + 1, 0, none⟩ (.int .i64 0)).setCell ⟨w.heap.size + 1, 1, none⟩ (.int .i64 0)).setCell ⟨w.heap.size + 1, 2, none⟩ (.slice none 0 0)).setCell ⟨w.heap.size + 1, 3, none⟩ (.int .i64 0)).setCell ⟨w.heap.size + 1, 4, none⟩ (.int .i64 0)).setCell ⟨w.heap.size + 1, 5, none⟩ (.slice none 0 0))) (fun p hp => World.cell?_setCell_other _ _ _ _ (fun e => by rw [← e] at hp; exact absurd (show w.heap.size + 1 < B from hp) (by omega))))
      have Sb_6 := Lib.hid ((((((Sb_5.out.keep (w' := (W5.setCell ⟨w.heap.size + 1, 0, none⟩ (.int .i64 0))) (fun p hp => World.cell?_setCell_other _ _ _ _ (fun e => by rw [← e] at hp; exact absurd (show w.heap.size + 1 < B2 from hp) (by omega)))).keep (w' := ((W5.setCell ⟨w.heap.size + 1, 0, none⟩ (.int .i64 0)).setCell ⟨w.heap.size + 1, 1, none⟩ (.int .i64 0))) (fun p hp => World.cell?_setCell_other _ _ _ _ (fun e => by rw [← e] at hp; exact absurd (show w.heap.size + 1 < B2 from hp) (by omega)))).keep (w' := (((W5.setCell ⟨w.heap.size + 1, 0, none⟩ (.int .i64 0)).setCell ⟨w.heap.size + 1, 1, none⟩ (.int .i64 0)).setCell ⟨w.heap.size + 1, 2, none⟩ (.slice none 0 0))) (fun p hp => World.cell?_setCell_other _ _ _ _ (fun e => by rw [← e] at hp; exact absurd (show w.heap.size + 1 < B2 from hp) (by omega)))).keep (w' := ((((W5.setCell ⟨w.heap.size + 1, 0, none⟩ (.int .i64 0)).setCell ⟨w.heap.size + 1, 1, none⟩ (.int .i64 0)).setCell ⟨w.heap.size + 1, 2, none⟩ (.slice none 0 0)).setCell ⟨w.heap.size + 1, 3, none⟩ (.int .i64 0))) (fun p hp => World.cell?_setCell_other _ _ _ _ (fun e => by rw [← e] at hp; exact absurd (show w.heap.size + 1 < B2 from hp) (by omega)))).keep (w' := (((((W5.setCell ⟨w.heap.size + 1, 0, none⟩ (.int .i64 0)).setCell ⟨w.heap.size + 1, 1, none⟩ (.int .i64 0)).setCell ⟨w.heap.size + 1, 2, none⟩ (.slice none 0 0)).setCell ⟨w.heap.size + 1, 3, none⟩ (.int .i64 0)).setCell ⟨w.heap.size + 1, 4, none⟩ (.int .i64 0))) (fun p hp => World.cell?_setCell_other _ _ _ _ (fun e => by rw [← e] at hp; exact absurd (show w.heap.size + 1 < B2 from hp) (by omega)))).keep (w' := ((((((W5.setCell ⟨w.heap.size + 1, 0, none⟩ (.int .i64 0)).setCell ⟨w.heap.size + 1, 1, none⟩ (.int .i64 0)).setCell ⟨w.heap.size + 1, 2, none⟩ (.slice none 0 0)).setCell ⟨w.heap.size + 1, 3, none⟩ (.int .i64 0)).setCell ⟨w.heap.size + 1, 4, none⟩ (.int .i64 0)).setCell ⟨w.heap.size + 1, 5, none⟩ (.slice none 0 0))) (fun p hp => World.cell?_setCell_other _ _ _ _ (fun e => by rw [← e] at hp; exact absurd (show w.heap.size + 1 < B2 from hp) (by omega))))
      have So_6 := Lib.hid ((((((So_5.out.keep (w' := (W5.setCell ⟨w.heap.size + 1, 0, none⟩ (.int .i64 0))) (fun p hp => World.cell?_setCell_other _ _ _ _ (fun e => by rw [← e] at hp; exact absurd (show w.heap.size + 1 < Bo from hp) (by omega)))).keep (w' := ((W5.setCell ⟨w.heap.size + 1, 0, none⟩ (.int .i64 0)).setCell ⟨w.heap.size + 1, 1, none⟩ (.int .i64 0))) (fun p hp => World.cell?_setCell_other _ _ _ _ (fun e => by rw [← e] at hp; exact absurd (show w.heap.size + 1 < Bo from hp) (by omega)))).keep (w' := (((W5.setCell ⟨w.heap.size + 1, 0, none⟩ (.int .i64 0)).setCell ⟨w.heap.size + 1, 1, none⟩ (.int .i64 0)).setCell ⟨w.heap.size + 1, 2, none⟩ (.slice none 0 0))) (fun p hp => World.cell?_setCell_other _ _ _ _ (fun e => by rw [← e] at hp; exact absurd (show w.heap.size + 1 < Bo from hp) (by omega)))).keep (w' := ((((W5.setCell ⟨w.heap.size + 1, 0, none⟩ (.int .i64 0)).setCell ⟨w.heap.size + 1, 1, none⟩ (.int .i64 0)).setCell ⟨w.heap.size + 1, 2, none⟩ (.slice none 0 0)).setCell ⟨w.heap.size + 1, 3, none⟩ (.int .i64 0))) (fun p hp => World.cell?_setCell_other _ _ _ _ (fun e => by rw [← e] at hp; exact absurd (show w.heap.size + 1 < Bo from hp) (by omega)))).keep (w' := (((((W5.setCell ⟨w.heap.size + 1, 0, none⟩ (.int .i64 0)).setCell ⟨w.heap.size + 1, 1, none⟩ (.int .i64 0)).setCell ⟨w.heap.size + 1, 2, none⟩ (.slice none 0 0)).setCell ⟨w.heap.size + 1, 3, none⟩ (.int .i64 0)).setCell ⟨w.heap.size + 1, 4, none⟩ (.int .i64 0))) (fun p hp => World.cell?_setCell_other _ _ _ _ (fun e => by rw [← e] at hp; exact absurd (show w.heap.size + 1 < Bo from hp) (by omega)))).keep (w' := ((((((W5.setCell ⟨w.heap.size + 1, 0, none⟩ (.int .i64 0)).setCell ⟨w.heap.size + 1, 1, none⟩ (.int .i64 0)).setCell ⟨w.heap.size + 1, 2, none⟩ (.slice none 0 0)).setCell ⟨w.heap.size + 1, 3, none⟩ (.int .i64 0)).setCell ⟨w.heap.size + 1, 4, none⟩ (.int .i64 0)).setCell ⟨w.heap.size + 1, 5, none⟩ (.slice none 0 0))) (fun p hp => World.cell?_setCell_other _ _ _ _ (fun e => by rw [← e] at hp; exact absurd (show w.heap.size + 1 < Bo from hp) (by omega))))
      have HB_6 := Lib.hid ((((((HB_5.out.setCell (p := ⟨w.heap.size + 1, 0, none⟩) (show w.heap.size ≤ w.heap.size + 1 by omega) (.int .i64 0)).setCell (p := ⟨w.heap.size + 1, 1, none⟩) (show w.heap.size ≤ w.heap.size + 1 by omega) (.int .i64 0)).setCell (p := ⟨w.heap.size + 1, 2, none⟩) (show w.heap.size ≤ w.heap.size + 1 by omega) (.slice none 0 0)).setCell (p := ⟨w.heap.size + 1, 3, none⟩) (show w.heap.size ≤ w.heap.size + 1 by omega) (.int .i64 0)).setCell (p := ⟨w.heap.size + 1, 4, none⟩) (show w.heap.size ≤ w.heap.size + 1 by omega) (.int .i64 0)).setCell (p := ⟨w.heap.size + 1, 5, none⟩) (show w.heap.size ≤ w.heap.size + 1 by omega) (.slice none 0 0))
      have z6 : ((((((W5.setCell ⟨w.heap.size + 1, 0, none⟩ (.int .i64 0)).setCell ⟨w.heap.size + 1, 1, none⟩ (.int .i64 0)).setCell ⟨w.heap.size + 1, 2, none⟩ (.slice none 0 0)).setCell ⟨w.heap.size + 1, 3, none⟩ (.int .i64 0)).setCell ⟨w.heap.size + 1, 4, none⟩ (.int .i64 0)).setCell ⟨w.heap.size + 1, 5, none⟩ (.slice none 0 0)).heap.size = W5.heap.size := by simp
      obtain ⟨x30, x31, x32, x33, x34, x35, xf30, xf31, xf32, xf33, xf34, xf35, x3lt⟩ := K3_5.out
      obtain ⟨x60, x61, x62, x63, x64, x65, xf60, xf61, xf62, xf63, xf64, xf65, x6lt⟩ := K6_5.out
      obtain ⟨x80, x81, x82, xf80, xf81, xf82, x8lt⟩ := K8_5.out
      go_wp2_with fail
      obtain ⟨W6, hW6⟩ : ∃ W, ((((((W5.setCell ⟨w.heap.size + 1, 0, none⟩ (.int .i64 0)).setCell ⟨w.heap.size + 1, 1, none⟩ (.int .i64 0)).setCell ⟨w.heap.size + 1, 2, none⟩ (.slice none 0 0)).setCell ⟨w.heap.size + 1, 3, none⟩ (.int .i64 0)).setCell ⟨w.heap.size + 1, 4, none⟩ (.int .i64 0)).setCell ⟨w.heap.size + 1, 5, none⟩ (.slice none 0 0)) = W := ⟨_, rfl⟩
      rw [hW6] at K3_6 K6_6 K8_6 Ru_6 Rf_6 Sa_6 Sb_6 So_6 HB_6 z6 ⊢
      replace z6 := And.intro (Nat.le_of_eq z6) (Nat.le_of_eq z6.symm)
      clear x30 x31 x32 x33 x34 x35 xf30 xf31 xf32 xf33 xf34 xf35 x3lt x60 x61 x62 x63 x64 x65 xf60 xf61 xf62 xf63 xf64 xf65 x6lt x80 x81 x82 xf80 xf81 xf82 x8lt
      clear hW6 K3_5 K6_5 K8_5 Ru_5 Rf_5 Sa_5 Sb_5 So_5 HB_5
      obtain ⟨z0', z1', z2', z3', z4', z5', _, _, _, _, _, _, _⟩ := K6_6.out
      refine bodyPost_ret (v := .tuple #[smV 0 0 (.slice none 0 0) 0 0 (.slice none 0 0), .int .i64 0]) (by simp [results, Try.results27, go_sem, z0', z1', z2', z3', z4', z5']) rfl ?_
      exact ⟨rfl, HB_6.out⟩
  · have HO := Lib.hid ho
    clear h ho hpr0 hpr1
    have q3 := (Cell6.new (w) (.int .i64 r) (.int .i64 c) (.slice A zs.length cap) (.int .i64 r2) (.int .i64 c2) (.slice A2 ks.length cap2) 47).alloc (.cells #[.int .i64 0, .int .i64 0, .slice none 0 0, .int .i64 0, .int .i64 0, .slice none 0 0] 47)
    have q6 := Cell6.new (w.alloc (.cells #[.int .i64 r, .int .i64 c, .slice A zs.length cap, .int .i64 r2, .int .i64 c2, .slice A2 ks.length cap2] 47)) (.int .i64 0) (.int .i64 0) (.slice none 0 0) (.int .i64 0) (.int .i64 0) (.slice none 0 0) 47
    have hb : Below w.heap.size w ((w.alloc (.cells #[.int .i64 r, .int .i64 c, .slice A zs.length cap, .int .i64 r2, .int .i64 c2, .slice A2 ks.length cap2] 47)).alloc (.cells #[.int .i64 0, .int .i64 0, .slice none 0 0, .int .i64 0, .int .i64 0, .slice none 0 0] 47)) := ((Below.refl _ _).alloc (Nat.le_refl _) _).alloc (by simp) _
    have hsz : ((w.alloc (.cells #[.int .i64 r, .int .i64 c, .slice A zs.length cap, .int .i64 r2, .int .i64 c2, .slice A2 ks.length cap2] 47)).alloc (.cells #[.int .i64 0, .int .i64 0, .slice none 0 0, .int .i64 0, .int .i64 0, .slice none 0 0] 47)).heap.size = w.heap.size + 2 := by simp
    simp only [World.size_alloc] at q6
    obtain ⟨W0, hW⟩ : ∃ W, (w.alloc (.cells #[.int .i64 r, .int .i64 c, .slice A zs.length cap, .int .i64 r2, .int .i64 c2, .slice A2 ks.length cap2] 47)).alloc (.cells #[.int .i64 0, .int .i64 0, .slice none 0 0, .int .i64 0, .int .i64 0, .slice none 0 0] 47) = W := ⟨_, rfl⟩
    rw [hW] at q3 q6 hb hsz
    replace hsz := And.intro (Nat.le_of_eq hsz) (Nat.le_of_eq hsz.symm)
    have K3_0 := Lib.hid q3
    have K6_0 := Lib.hid q6
    have Sa_0 := Lib.hid (hs.below hb hB)
    have Sb_0 := Lib.hid (hs2.below hb hB2)
    have So_0 := Lib.hid (hso.below hb hBo)
    have HB_0 := Lib.hid hb
    clear hb q3 q6 hs hs2 hso
    go_enter Try.func27, Try.ntmps27
    obtain ⟨x30, x31, x32, x33, x34, x35, xf30, xf31, xf32, xf33, xf34, xf35, x3lt⟩ := K3_0.out
    obtain ⟨x60, x61, x62, x63, x64, x65, xf60, xf61, xf62, xf63, xf64, xf65, x6lt⟩ := K6_0.out
    go_wp2_with fail
    refine (ownS_any r c A cap _ B zs r2 c2 A2 cap2 _ B2 ks W0 Sa_0.out (by omega) rfl hn Sb_0.out (by omega) rfl hn2).mono ?_
    rintro e W1 ⟨sv1, tv1, rfl, hr, hb⟩
    obtain ⟨Au, cu, Bu, du, rfl, rfl, hcp1, hcp2⟩ := hr.form
    have HCPu := Lib.hid (And.intro hcp1 hcp2)
    clear hcp1 hcp2
    clear x30 x31 x32 x33 x34 x35 xf30 xf31 xf32 xf33 xf34 xf35 x3lt x60 x61 x62 x63 x64 x65 xf60 xf61 xf62 xf63 xf64 xf65 x6lt
    have s1 := hb.size
    have K3_1 := Lib.hid (K3_0.out.below hb (show w.heap.size < W0.heap.size by omega))
    have K6_1 := Lib.hid (K6_0.out.below hb (show w.heap.size + 1 < W0.heap.size by omega))
    have Sa_1 := Lib.hid (Sa_0.out.below hb (show B ≤ W0.heap.size by omega))
    have Sb_1 := Lib.hid (Sb_0.out.below hb (show B2 ≤ W0.heap.size by omega))
    have So_1 := Lib.hid (So_0.out.below hb (show Bo ≤ W0.heap.size by omega))
    have HB_1 := Lib.hid (HB_0.out.trans (hb.mono (show w.heap.size ≤ W0.heap.size by omega)))
    clear K3_0 K6_0 Sa_0 Sb_0 So_0 HB_0 hb hW
    have Ru_1 := Lib.hid hr
    clear hr
    have K3_2 := Lib.hid ((((((K3_1.out.set0 (.int .i64 r)).set1 (.int .i64 c)).set2 (.slice Au zs.length cu)).set3 (.int .i64 r2)).set4 (.int .i64 c2)).set5 (.slice Bu ks.length du))
    have K6_2 := Lib.hid ((((((K6_1.out.far (a := ⟨w.heap.size, 0, none⟩) (show w.heap.size + 1 ≠ w.heap.size by omega) (.int .i64 r)).far (a := ⟨w.heap.size, 1, none⟩) (show w.heap.size + 1 ≠ w.heap.size by omega) (.int .i64 c)).far (a := ⟨w.heap.size, 2, none⟩) (show w.heap.size + 1 ≠ w.heap.size by omega) (.slice Au zs.length cu)).far (a := ⟨w.heap.size, 3, none⟩) (show w.heap.size + 1 ≠ w.heap.size by omega) (.int .i64 r2)).far (a := ⟨w.heap.size, 4, none⟩) (show w.heap.size + 1 ≠ w.heap.size by omega) (.int .i64 c2)).far (a := ⟨w.heap.size, 5, none⟩) (show w.heap.size + 1 ≠ w.heap.size by omega) (.slice Bu ks.length du))
    have Ru_2 := Lib.hid ((((((Ru_1.out.grown (set_grown _ (w.heap.size) 0 (.int .i64 r)) (fun g e => by cases e; omega)).grown (set_grown _ (w.heap.size) 1 (.int .i64 c)) (fun g e => by cases e; omega)).grown (set_grown _ (w.heap.size) 2 (.slice Au zs.length cu)) (fun g e => by cases e; omega)).grown (set_grown _ (w.heap.size) 3 (.int .i64 r2)) (fun g e => by cases e; omega)).grown (set_grown _ (w.heap.size) 4 (.int .i64 c2)) (fun g e => by cases e; omega)).grown (set_grown _ (w.heap.size) 5 (.slice Bu ks.length du)) (fun g e => by cases e; omega))
    have Sa_2 := Lib.hid ((((((Sa_1.out.keep (w' := (W1.setCell ⟨w.heap.size, 0, none⟩ (.int .i64 r))) (fun p hp => World.cell?_setCell_other _ _ _ _ (fun e => by rw [← e] at hp; exact absurd (show w.heap.size < B from hp) (by omega)))).keep (w' := ((W1.setCell ⟨w.heap.size, 0, none⟩ (.int .i64 r)).setCell ⟨w.heap.size, 1, none⟩ (.int .i64 c))) (fun p hp => World.cell?_setCell_other _ _ _ _ (fun e => by rw [← e] at hp; exact absurd (show w.heap.size < B from hp) (by omega)))).keep (w' := (((W1.setCell ⟨w.heap.size, 0, none⟩ (.int .i64 r)).setCell ⟨w.heap.size, 1, none⟩ (.int .i64 c)).setCell ⟨w.heap.size, 2, none⟩ (.slice Au zs.length cu))) (fun p hp => World.cell?_setCell_other _ _ _ _ (fun e => by rw [← e] at hp; exact absurd (show w.heap.size < B from hp) (by omega)))).keep (w' := ((((W1.setCell ⟨w.heap.size, 0, none⟩ (.int .i64 r)).setCell ⟨w.heap.size, 1, none⟩ (.int .i64 c)).setCell ⟨w.heap.size, 2, none⟩ (.slice Au zs.length cu)).setCell ⟨w.heap.size, 3, none⟩ (.int .i64 r2))) (fun p hp => World.cell?_setCell_other _ _ _ _ (fun e => by rw [← e] at hp; exact absurd (show w.heap.size < B from hp) (by omega)))).keep (w' := (((((W1.setCell ⟨w.heap.size, 0, none⟩ (.int .i64 r)).setCell ⟨w.heap.size, 1, none⟩ (.int .i64 c)).setCell ⟨w.heap.size, 2, none⟩ (.slice Au zs.length cu)).setCell ⟨w.heap.size, 3, none⟩ (.int .i64 r2)).setCell ⟨w.heap.size, 4, none⟩ (.int .i64 c2))) (fun p hp => World.cell?_setCell_other _ _ _ _ (fun e => by rw [← e] at hp; exact absurd (show w.heap.size < B from hp) (by omega)))).keep (w' := ((((((W1.setCell ⟨w.heap.size, 0, none⟩ (.int .i64 r)).setCell ⟨w.heap.size, 1, none⟩ (.int .i64 c)).setCell ⟨w.heap.size, 2, none⟩ (.slice Au zs.length cu)).setCell ⟨w.heap.size, 3, none⟩ (.int .i64 r2)).setCell ⟨w.heap.size, 4, none⟩ (.int .i64 c2)).setCell ⟨w.heap.size, 5, none⟩ (.slice Bu ks.length du))) (fun p hp => World.cell?_setCell_other _ _ _ _ (fun e => by rw [← e] at hp; exact absurd (show w.heap.size < B from hp) (by omega))))
    have Sb_2 := Lib.hid ((((((Sb_1.out.keep (w' := (W1.setCell ⟨w.heap.size, 0, none⟩ (.int .i64 r))) (fun p hp => World.cell?_setCell_other _ _ _ _ (fun e => by rw [← e] at hp; exact absurd (show w.heap.size < B2 from hp) (by omega)))).keep (w' := ((W1.setCell ⟨w.heap.size, 0, none⟩ (.int .i64 r)).setCell ⟨w.heap.size, 1, none⟩ (.int .i64 c))) (fun p hp => World.cell?_setCell_other _ _ _ _ (fun e => by rw [← e] at hp; exact absurd (show w.heap.size < B2 from hp) (by omega)))).keep (w' := (((W1.setCell ⟨w.heap.size, 0, none⟩ (.int .i64 r)).setCell ⟨w.heap.size, 1, none⟩ (.int .i64 c)).setCell ⟨w.heap.size, 2, none⟩ (.slice Au zs.length cu))) (fun p hp => World.cell?_setCell_other _ _ _ _ (fun e => by rw [← e] at hp; exact absurd (show w.heap.size < B2 from hp) (by omega)))).keep (w' := ((((W1.setCell ⟨w.heap.size, 0, none⟩ (.int .i64 r)).setCell ⟨w.heap.size, 1, none⟩ (.int .i64 c)).setCell ⟨w.heap.size, 2, none⟩ (.slice Au zs.length cu)).setCell ⟨w.heap.size, 3, none⟩ (.int .i64 r2))) (fun p hp => World.cell?_setCell_other _ _ _ _ (fun e => by rw [← e] at hp; exact absurd (show w.heap.size < B2 from hp) (by omega)))).keep (w' := (((((W1.setCell ⟨w.heap.size, 0, none⟩ (.int .i64 r)).setCell ⟨w.heap.size, 1, none⟩ (.int .i64 c)).setCell ⟨w.heap.size, 2, none⟩ (.slice Au zs.length cu)).setCell ⟨w.heap.size, 3, none⟩ (.int .i64 r2)).setCell ⟨w.heap.size, 4, none⟩ (.int .i64 c2))) (fun p hp => World.cell?_setCell_other _ _ _ _ (fun e => by rw [← e] at hp; exact absurd (show w.heap.size < B2 from hp) (by omega)))).keep (w' := ((((((W1.setCell ⟨w.heap.size, 0, none⟩ (.int .i64 r)).setCell ⟨w.heap.size, 1, none⟩ (.int .i64 c)).setCell ⟨w.heap.size, 2, none⟩ (.slice Au zs.length cu)).setCell ⟨w.heap.size, 3, none⟩ (.int .i64 r2)).setCell ⟨w.heap.size, 4, none⟩ (.int .i64 c2)).setCell ⟨w.heap.size, 5, none⟩ (.slice Bu ks.length du))) (fun p hp => World.cell?_setCell_other _ _ _ _ (fun e => by rw [← e] at hp; exact absurd (show w.heap.size < B2 from hp) (by omega))))
    have So_2 := Lib.hid ((((((So_1.out.keep (w' := (W1.setCell ⟨w.heap.size, 0, none⟩ (.int .i64 r))) (fun p hp => World.cell?_setCell_other _ _ _ _ (fun e => by rw [← e] at hp; exact absurd (show w.heap.size < Bo from hp) (by omega)))).keep (w' := ((W1.setCell ⟨w.heap.size, 0, none⟩ (.int .i64 r)).setCell ⟨w.heap.size, 1, none⟩ (.int .i64 c))) (fun p hp => World.cell?_setCell_other _ _ _ _ (fun e => by rw [← e] at hp; exact absurd (show w.heap.size < Bo from hp) (by omega)))).keep (w' := (((W1.setCell ⟨w.heap.size, 0, none⟩ (.int .i64 r)).setCell ⟨w.heap.size, 1, none⟩ (.int .i64 c)).setCell ⟨w.heap.size, 2, none⟩ (.slice Au zs.length cu))) (fun p hp => World.cell?_setCell_other _ _ _ _ (fun e => by rw [← e] at hp; exact absurd (show w.heap.size < Bo from hp) (by omega)))).keep (w' := ((((W1.setCell ⟨w.heap.size, 0, none⟩ (.int .i64 r)).setCell ⟨w.heap.size, 1, none⟩ (.int .i64 c)).setCell ⟨w.heap.size, 2, none⟩ (.slice Au zs.length cu)).setCell ⟨w.heap.size, 3, none⟩ (.int .i64 r2))) (fun p hp => World.cell?_setCell_other _ _ _ _ (fun e => by rw [← e] at hp; exact absurd (show w.heap.size < Bo from hp) (by omega)))).keep (w' := (((((W1.setCell ⟨w.heap.size, 0, none⟩ (.int .i64 r)).setCell ⟨w.heap.size, 1, none⟩ (.int .i64 c)).setCell ⟨w.heap.size, 2, none⟩ (.slice Au zs.length cu)).setCell ⟨w.heap.size, 3, none⟩ (.int .i64 r2)).setCell ⟨w.heap.size, 4, none⟩ (.int .i64 c2))) (fun p hp => World.cell?_setCell_other _ _ _ _ (fun e => by rw [← e] at hp; exact absurd (show w.heap.size < Bo from hp) (by omega)))).keep (w' := ((((((W1.setCell ⟨w.heap.size, 0, none⟩ (.int .i64 r)).setCell ⟨w.heap.size, 1, none⟩ (.int .i64 c)).setCell ⟨w.heap.size, 2, none⟩ (.slice Au zs.length cu)).setCell ⟨w.heap.size, 3, none⟩ (.int .i64 r2)).setCell ⟨w.heap.size, 4, none⟩ (.int .i64 c2)).setCell ⟨w.heap.size, 5, none⟩ (.slice Bu ks.length du))) (fun p hp => World.cell?_setCell_other _ _ _ _ (fun e => by rw [← e] at hp; exact absurd (show w.heap.size < Bo from hp) (by omega))))
    have HB_2 := Lib.hid ((((((HB_1.out.setCell (p := ⟨w.heap.size, 0, none⟩) (show w.heap.size ≤ w.heap.size by omega) (.int .i64 r)).setCell (p := ⟨w.heap.size, 1, none⟩) (show w.heap.size ≤ w.heap.size by omega) (.int .i64 c)).setCell (p := ⟨w.heap.size, 2, none⟩) (show w.heap.size ≤ w.heap.size by omega) (.slice Au zs.length cu)).setCell (p := ⟨w.heap.size, 3, none⟩) (show w.heap.size ≤ w.heap.size by omega) (.int .i64 r2)).setCell (p := ⟨w.heap.size, 4, none⟩) (show w.heap.size ≤ w.heap.size by omega) (.int .i64 c2)).setCell (p := ⟨w.heap.size, 5, none⟩) (show w.heap.size ≤ w.heap.size by omega) (.slice Bu ks.length du))
    have z2 : ((((((W1.setCell ⟨w.heap.size, 0, none⟩ (.int .i64 r)).setCell ⟨w.heap.size, 1, none⟩ (.int .i64 c)).setCell ⟨w.heap.size, 2, none⟩ (.slice Au zs.length cu)).setCell ⟨w.heap.size, 3, none⟩ (.int .i64 r2)).setCell ⟨w.heap.size, 4, none⟩ (.int .i64 c2)).setCell ⟨w.heap.size, 5, none⟩ (.slice Bu ks.length du)).heap.size = W1.heap.size := by simp
    obtain ⟨x30, x31, x32, x33, x34, x35, xf30, xf31, xf32, xf33, xf34, xf35, x3lt⟩ := K3_1.out
    obtain ⟨x60, x61, x62, x63, x64, x65, xf60, xf61, xf62, xf63, xf64, xf65, x6lt⟩ := K6_1.out
    go_wp2_with fail
    obtain ⟨W2, hW2⟩ : ∃ W, ((((((W1.setCell ⟨w.heap.size, 0, none⟩ (.int .i64 r)).setCell ⟨w.heap.size, 1, none⟩ (.int .i64 c)).setCell ⟨w.heap.size, 2, none⟩ (.slice Au zs.length cu)).setCell ⟨w.heap.size, 3, none⟩ (.int .i64 r2)).setCell ⟨w.heap.size, 4, none⟩ (.int .i64 c2)).setCell ⟨w.heap.size, 5, none⟩ (.slice Bu ks.length du)) = W := ⟨_, rfl⟩
    rw [hW2] at K3_2 K6_2 Ru_2 Sa_2 Sb_2 So_2 HB_2 z2 ⊢
    replace z2 := And.intro (Nat.le_of_eq z2) (Nat.le_of_eq z2.symm)
    clear x30 x31 x32 x33 x34 x35 xf30 xf31 xf32 xf33 xf34 xf35 x3lt x60 x61 x62 x63 x64 x65 xf60 xf61 xf62 xf63 xf64 xf65 x6lt
    clear hW2 K3_1 K6_1 Ru_1 Sa_1 Sb_1 So_1 HB_1
    refine (specOrd_any r c Au cu _ W2.heap.size zs Ao co _ Bo os W2 (Ru_2.out.sl1.more (show W1.heap.size ≤ W2.heap.size by omega)) (Nat.le_refl _) rfl hn So_2.out (by omega) rfl hno).mono ?_
    rintro e W3 ⟨sv3, rfl, hr, hb⟩
    rw [HP.out.1, HP.out.2.1]
    rw [HP.out.2.2] at hr
    obtain ⟨Af, cf, rfl, hcp1, hcp2, _⟩ := hr.form
    have HCPf := Lib.hid (And.intro hcp1 hcp2)
    clear hcp1 hcp2
    have s3 := hb.size
    have K3_3 := Lib.hid (K3_2.out.below hb (show w.heap.size < W2.heap.size by omega))
    have K6_3 := Lib.hid (K6_2.out.below hb (show w.heap.size + 1 < W2.heap.size by omega))
    have Ru_3 := Lib.hid (Ru_2.out.below hb (show W1.heap.size ≤ W2.heap.size by omega))
    have Sa_3 := Lib.hid (Sa_2.out.below hb (show B ≤ W2.heap.size by omega))
    have Sb_3 := Lib.hid (Sb_2.out.below hb (show B2 ≤ W2.heap.size by omega))
    have So_3 := Lib.hid (So_2.out.below hb (show Bo ≤ W2.heap.size by omega))
    have HB_3 := Lib.hid (HB_2.out.trans (hb.mono (show w.heap.size ≤ W2.heap.size by omega)))
    clear K3_2 K6_2 Ru_2 Sa_2 Sb_2 So_2 HB_2 hb
    have Rf_3 := Lib.hid hr
    clear hr
    have kn := Cell3.new W3 (.int .i64 pr) (.int .i64 pc) (.slice Af ps.length cf) 33
    obtain ⟨W4, hW4⟩ : ∃ W, W3.alloc (.cells #[.int .i64 pr, .int .i64 pc, .slice Af ps.length cf] 33) = W := ⟨_, rfl⟩
    rw [hW4] at kn
    have z4 : W4.heap.size = W3.heap.size + 1 := by rw [← hW4]; simp
    replace z4 := And.intro (Nat.le_of_eq z4) (Nat.le_of_eq z4.symm)
    have hal : Below W3.heap.size W3 W4 := hW4 ▸ (Below.refl _ _).alloc (Nat.le_refl _) _
    have s4 := hal.size
    have K3_4 := Lib.hid (K3_3.out.below hal (show w.heap.size < W3.heap.size by omega))
    have K6_4 := Lib.hid (K6_3.out.below hal (show w.heap.size + 1 < W3.heap.size by omega))
    have Ru_4 := Lib.hid (Ru_3.out.below hal (show W1.heap.size ≤ W3.heap.size by omega))
    have Rf_4 := Lib.hid (Rf_3.out.below hal (show W3.heap.size ≤ W3.heap.size by omega))
    have Sa_4 := Lib.hid (Sa_3.out.below hal (show B ≤ W3.heap.size by omega))
    have Sb_4 := Lib.hid (Sb_3.out.below hal (show B2 ≤ W3.heap.size by omega))
    have So_4 := Lib.hid (So_3.out.below hal (show Bo ≤ W3.heap.size by omega))
    have HB_4 := Lib.hid (HB_3.out.trans (hal.mono (show w.heap.size ≤ W3.heap.size by omega)))
    clear K3_3 K6_3 Ru_3 Rf_3 Sa_3 Sb_3 So_3 HB_3 hal
    have K8_4 := Lib.hid kn
    clear kn
    obtain ⟨x30, x31, x32, x33, x34, x35, xf30, xf31, xf32, xf33, xf34, xf35, x3lt⟩ := K3_4.out
    obtain ⟨x60, x61, x62, x63, x64, x65, xf60, xf61, xf62, xf63, xf64, xf65, x6lt⟩ := K6_4.out
    obtain ⟨x80, x81, x82, xf80, xf81, xf82, x8lt⟩ := K8_4.out
    go_wp2_with fail
    refine (specSMV_any r c Au cu _ W4.heap.size zs r2 c2 Bu du _ W4.heap.size ks W4 (Ru_4.out.sl1.more (show W1.heap.size ≤ W4.heap.size by omega)) (Nat.le_refl _) rfl hn (Ru_4.out.sl2.more (show W1.heap.size ≤ W4.heap.size by omega)) (Nat.le_refl _) rfl hn2 false ⟨fun e => (by simp at e), fun e => absurd e HO.out⟩).mono ?_
    rintro e W5 ⟨rfl, hb⟩
    clear x30 x31 x32 x33 x34 x35 xf30 xf31 xf32 xf33 xf34 xf35 x3lt x60 x61 x62 x63 x64 x65 xf60 xf61 xf62 xf63 xf64 xf65 x6lt x80 x81 x82 xf80 xf81 xf82 x8lt
    have s5 := hb.size
    have K3_5 := Lib.hid (K3_4.out.below hb (show w.heap.size < W4.heap.size by omega))
    have K6_5 := Lib.hid (K6_4.out.below hb (show w.heap.size + 1 < W4.heap.size by omega))
    have K8_5 := Lib.hid (K8_4.out.below hb (show W3.heap.size < W4.heap.size by omega))
    have Ru_5 := Lib.hid (Ru_4.out.below hb (show W1.heap.size ≤ W4.heap.size by omega))
    have Rf_5 := Lib.hid (Rf_4.out.below hb (show W3.heap.size ≤ W4.heap.size by omega))
    have Sa_5 := Lib.hid (Sa_4.out.below hb (show B ≤ W4.heap.size by omega))
    have Sb_5 := Lib.hid (Sb_4.out.below hb (show B2 ≤ W4.heap.size by omega))
    have So_5 := Lib.hid (So_4.out.below hb (show Bo ≤ W4.heap.size by omega))
    have HB_5 := Lib.hid (HB_4.out.trans (hb.mono (show w.heap.size ≤ W4.heap.size by omega)))
    clear K3_4 K6_4 K8_4 Ru_4 Rf_4 Sa_4 Sb_4 So_4 HB_4 hb
    have K3_6 := Lib.hid ((((((K3_5.out.far (a := ⟨w.heap.size + 1, 0, none⟩) (show w.heap.size ≠ w.heap.size + 1 by omega) (.int .i64 0)).far (a := ⟨w.heap.size + 1, 1, none⟩) (show w.heap.size ≠ w.heap.size + 1 by omega) (.int .i64 0)).far (a := ⟨w.heap.size + 1, 2, none⟩) (show w.heap.size ≠ w.heap.size + 1 by omega) (.slice none 0 0)).far (a := ⟨w.heap.size + 1, 3, none⟩) (show w.heap.size ≠ w.heap.size + 1 by omega) (.int .i64 0)).far (a := ⟨w.heap.size + 1, 4, none⟩) (show w.heap.size ≠ w.heap.size + 1 by omega) (.int .i64 0)).far (a := ⟨w.heap.size + 1, 5, none⟩) (show w.heap.size ≠ w.heap.size + 1 by omega) (.slice none 0 0))
    have K6_6 := Lib.hid ((((((K6_5.out.set0 (.int .i64 0)).set1 (.int .i64 0)).set2 (.slice none 0 0)).set3 (.int .i64 0)).set4 (.int .i64 0)).set5 (.slice none 0 0))
    have K8_6 := Lib.hid ((((((K8_5.out.far (a := ⟨w.heap.size + 1, 0, none⟩) (show W3.heap.size ≠ w.heap.size + 1 by omega) (.int .i64 0)).far (a := ⟨w.heap.size + 1, 1, none⟩) (show W3.heap.size ≠ w.heap.size + 1 by omega) (.int .i64 0)).far (a := ⟨w.heap.size + 1, 2, none⟩) (show W3.heap.size ≠ w.heap.size + 1 by omega) (.slice none 0 0)).far (a := ⟨w.heap.size + 1, 3, none⟩) (show W3.heap.size ≠ w.heap.size + 1 by omega) (.int .i64 0)).far (a := ⟨w.heap.size + 1, 4, none⟩) (show W3.heap.size ≠ w.heap.size + 1 by omega) (.int .i64 0)).far (a := ⟨w.heap.size + 1, 5, none⟩) (show W3.heap.size ≠ w.heap.size + 1 by omega) (.slice none 0 0))
    have Ru_6 := Lib.hid ((((((Ru_5.out.grown (set_grown _ (w.heap.size + 1) 0 (.int .i64 0)) (fun g e => by cases e; omega)).grown (set_grown _ (w.heap.size + 1) 1 (.int .i64 0)) (fun g e => by cases e; omega)).grown (set_grown _ (w.heap.size + 1) 2 (.slice none 0 0)) (fun g e => by cases e; omega)).grown (set_grown _ (w.heap.size + 1) 3 (.int .i64 0)) (fun g e => by cases e; omega)).grown (set_grown _ (w.heap.size + 1) 4 (.int .i64 0)) (fun g e => by cases e; omega)).grown (set_grown _ (w.heap.size + 1) 5 (.slice none 0 0)) (fun g e => by cases e; omega))
    have Rf_6 := Lib.hid ((((((Rf_5.out.grown (set_grown _ (w.heap.size + 1) 0 (.int .i64 0)) (fun g e => by cases e; omega)).grown (set_grown _ (w.heap.size + 1) 1 (.int .i64 0)) (fun g e => by cases e; omega)).grown (set_grown _ (w.heap.size + 1) 2 (.slice none 0 0)) (fun g e => by cases e; omega)).grown (set_grown _ (w.heap.size + 1) 3 (.int .i64 0)) (fun g e => by cases e; omega)).grown (set_grown _ (w.heap.size + 1) 4 (.int .i64 0)) (fun g e => by cases e; omega)).grown (set_grown _ (w.heap.size + 1) 5 (.slice none 0 0)) (fun g e => by cases e; omega))
    have Sa_6 := Lib.hid ((((((Sa_5.out.keep (w' := (W5.setCell ⟨w.heap.size + 1, 0, none⟩ (.int .i64 0))) (fun p hp => World.cell?_setCell_other _ _ _ _ (fun e => by rw [← e] at hp; exact absurd (show w.heap.size + 1 < B from hp) (by omega)))).keep (w' := ((W5.setCell ⟨w.heap.size + 1, 0, none⟩ (.int .i64 0)).setCell ⟨w.heap.size + 1, 1, none⟩ (.int .i64 0))) (fun p hp => World.cell?_setCell_other _ _ _ _ (fun e => by rw [← e] at hp; exact absurd (show w.heap.size + 1 < B from hp) (by omega)))).keep (w' := (((W5.setCell ⟨w.heap.size + 1, 0, none⟩ (.int .i64 0)).setCell ⟨w.heap.size + 1, 1, none⟩ (.int .i64 0)).setCell ⟨w.heap.size + 1, 2, none⟩ (.slice none 0 0))) (fun p hp => World.cell?_setCell_other _ _ _ _ (fun e => by rw [← e] at hp; exact absurd (show w.heap.size + 1 < B from hp) (by omega)))).keep (w' := ((((W5.setCell ⟨w.heap.size + 1, 0, none⟩ (.int .i64 0)).setCell ⟨w.heap.size + 1, 1, none⟩ (.int .i64 0)).setCell ⟨w.heap.size + 1, 2, none⟩ (.slice none 0 0)).setCell ⟨w.heap.size + 1, 3, none⟩ (.int .i64 0))) (fun p hp => World.cell?_setCell_other _ _ _ _ (fun e => by rw [← e] at hp; exact absurd (show w.heap.size + 1 < B from hp) (by omega)))).keep (w' := (((((W5.setCell ⟨w.heap.size + 1, 0, none⟩ (.int .i64 0)).setCell ⟨w.heap.size + 1, 1, none⟩ (.int .i64 0)).setCell ⟨w.heap.size + 1, 2, none⟩ (.slice none 0 0)).setCell ⟨w.heap.size + 1, 3, none⟩ (.int .i64 0)).setCell ⟨w.heap.size + 1, 4, none⟩ (.int .i64 0))) (fun p hp => World.cell?_setCell_other _ _ _ _ (fun e => by rw [← e] at hp; exact absurd (show w.heap.size + 1 < B from hp) (by omega)))).keep (w' := ((((((W5.setCell ⟨w.heap.size + 1, 0, none⟩ (.int .i64 0)).setCell ⟨w.heap.size + 1, 1, none⟩ (.int .i64 0)).setCell ⟨w.heap.size + 1, 2, none⟩ (.slice none 0 0)).setCell ⟨w.heap.size + 1, 3, none⟩ (.int .i64 0)).setCell ⟨w.heap.size + 1, 4, none⟩ (.int .i64 0)).setCell ⟨w.heap.size + 1, 5, none⟩ (.slice none 0 0))) (fun p hp => World.cell?_setCell_other _ _ _ _ (fun e => by rw [← e] at hp; exact absurd (show w.heap.size + 1 < B from hp) (by omega))))
    have Sb_6 := Lib.hid ((((((Sb_5.out.keep (w' := (W5.setCell ⟨w.heap.size + 1, 0, none⟩ (.int .i64 0))) (fun p hp => World.cell?_setCell_other _ _ _ _ (fun e => by rw [← e] at hp; exact absurd (show w.heap.size + 1 < B2 from hp) (by omega)))).keep (w' := ((W5.setCell ⟨w.heap.size + 1, 0, none⟩ (.int .i64 0)).setCell ⟨w.heap.size + 1, 1, none⟩ (.int .i64 0))) (fun p hp => World.cell?_setCell_other _ _ _ _ (fun e => by rw [← e] at hp; exact absurd (show w.heap.size + 1 < B2 from hp) (by omega)))).keep (w' := (((W5.setCell ⟨w.heap.size + 1, 0, none⟩ (.int .i64 0)).setCell ⟨w.heap.size + 1, 1, none⟩ (.int .i64 0)).setCell ⟨w.heap.size + 1, 2, none⟩ (.slice none 0 0))) (fun p hp => World.cell?_setCell_other _ _ _ _ (fun e => by rw [← e] at hp; exact absurd (show w.heap.size + 1 < B2 from hp) (by omega)))).keep (w' := ((((W5.setCell ⟨w.heap.size + 1, 0, none⟩ (.int .i64 0)).setCell ⟨w.heap.size + 1, 1, none⟩ (.int .i64 0)).setCell ⟨w.heap.size + 1, 2, none⟩ (.slice none 0 0)).setCell ⟨w.heap.size + 1, 3, none⟩ (.int .i64 0))) (fun p hp => World.cell?_setCell_other _ _ _ _ (fun e => by rw [← e] at hp; exact absurd (show w.heap.size + 1 < B2 from hp) (by omega)))).keep (w' := (((((W5.setCell ⟨w.heap.size + 1, 0, none⟩ (.int .i64 0)).setCell ⟨w.heap.size + 1, 1, none⟩ (.int .i64 0)).setCell ⟨w.heap.size + 1, 2, none⟩ (.slice none 0 0)).setCell ⟨w.heap.size + 1, 3, none⟩ (.int .i64 0)).setCell ⟨w.heap.size + 1, 4, none⟩ (.int .i64 0))) (fun p hp => World.cell?_setCell_other _ _ _ _ (fun e => by rw [← e] at hp; exact absurd (show w.heap.size + 1 < B2 from hp) (by omega)))).keep (w' := ((((((W5.setCell ⟨w.heap.size + 1, 0, none⟩ (.int .i64 0)).setCell ⟨w.heap.size + 1, 1, none⟩ (.int .i64 0)).setCell ⟨w.heap.size + 1, 2, none⟩ (.slice none 0 0)).setCell ⟨w.heap.size + 1, 3, none⟩ (.int .i64 0)).setCell ⟨w.heap.size + 1, 4, none⟩ (.int .i64 0)).setCell ⟨w.heap.size + 1, 5, none⟩ (.slice none 0 0))) (fun p hp => World.cell?_setCell_other _ _ _ _ (fun e => by rw [← e] at hp; exact absurd (show w.heap.size + 1 < B2 from hp) (by omega))))
    have So_6 := Lib.hid ((((((So_5.out.keep (w' := (W5.setCell ⟨w.heap.size + 1, 0, none⟩ (.int .i64 0))) (fun p hp => World.cell?_setCell_other _ _ _ _ (fun e => by rw [← e] at hp; exact absurd (show w.heap.size + 1 < Bo from hp) (by omega)))).keep (w' := ((W5.setCell ⟨w.heap.size + 1, 0, none⟩ (.int .i64 0)).setCell ⟨w.heap.size + 1, 1, none⟩ (.int .i64 0))) (fun p hp => World.cell?_setCell_other _ _ _ _ (fun e => by rw [← e] at hp; exact absurd (show w.heap.size + 1 < Bo from hp) (by omega)))).keep (w' := (((W5.setCell ⟨w.heap.size + 1, 0, none⟩ (.int .i64 0)).setCell ⟨w.heap.size + 1, 1, none⟩ (.int .i64 0)).setCell ⟨w.heap.size + 1, 2, none⟩ (.slice none 0 0))) (fun p hp => World.cell?_setCell_other _ _ _ _ (fun e => by rw [← e] at hp; exact absurd (show w.heap.size + 1 < Bo from hp) (by omega)))).keep (w' := ((((W5.setCell ⟨w.heap.size + 1, 0, none⟩ (.int .i64 0)).setCell ⟨w.heap.size + 1, 1, none⟩ (.int .i64 0)).setCell ⟨w.heap.size + 1, 2, none⟩ (.slice none 0 0)).setCell ⟨w.heap.size + 1, 3, none⟩ (.int .i64 0))) (fun p hp => World.cell?_setCell_other _ _ _ _ (fun e => by rw [← e] at hp; exact absurd (show w.heap.size + 1 < Bo from hp) (by omega)))).keep (w' := (((((W5.setCell ⟨w.heap.size + 1, 0, none⟩ (.int .i64 0)).setCell ⟨w.heap.size + 1, 1, none⟩ (.int .i64 0)).setCell ⟨w.heap.size + 1, 2, none⟩ (.slice none 0 0)).setCell ⟨w.heap.size + 1, 3, none⟩ (.int .i64 0)).setCell ⟨w.heap.size + 1, 4, none⟩ (.int .i64 0))) (fun p hp => World.cell?_setCell_other _ _ _ _ (fun e => by rw [← e] at hp; exact absurd (show w.heap.size + 1 < Bo from hp) (by omega)))).keep (w' := ((((((W5.setCell ⟨w.heap.size + 1, 0, none⟩ (.int .i64 0)).setCell ⟨w.heap.size + 1, 1, none⟩ (.int .i64 0)).setCell ⟨w.heap.size + 1, 2, none⟩ (.slice none 0 0)).setCell ⟨w.heap.size + 1, 3, none⟩ (.int .i64 0)).setCell ⟨w.heap.size + 1, 4, none⟩ (.int .i64 0)).setCell ⟨w.heap.size + 1, 5, none⟩ (.slice none 0 0))) (fun p hp => World.cell?_setCell_other _ _ _ _ (fun e => by rw [← e] at hp; exact absurd (show w.heap.size + 1 < Bo from hp) (by omega))))
    have HB_6 := Lib.hid ((((((HB_5.out.setCell (p := ⟨w.heap.size + 1, 0, none⟩) (show w.heap.size ≤ w.heap.size + 1 by omega) (.int .i64 0)).setCell (p := ⟨w.heap.size + 1, 1, none⟩) (show w.heap.size ≤ w.heap.size + 1 by omega) (.int .i64 0)).setCell (p := ⟨w.heap.size + 1, 2, none⟩) (show w.heap.size ≤ w.heap.size + 1 by omega) (.slice none 0 0)).setCell (p := ⟨w.heap.size + 1, 3, none⟩) (show w.heap.size ≤ w.heap.size + 1 by omega) (.int .i64 0)).setCell (p := ⟨w.heap.size + 1, 4, none⟩) (show w.heap.size ≤ w.heap.size + 1 by omega) (.int .i64 0)).setCell (p := ⟨w.heap.size + 1, 5, none⟩) (show w.heap.size ≤ w.heap.size + 1 by omega) (.slice none 0 0))
    have z6 : ((((((W5.setCell ⟨w.heap.size + 1, 0, none⟩ (.int .i64 0)).setCell ⟨w.heap.size + 1, 1, none⟩ (.int .i64 0)).setCell ⟨w.heap.size + 1, 2, none⟩ (.slice none 0 0)).setCell ⟨w.heap.size + 1, 3, none⟩ (.int .i64 0)).setCell ⟨w.heap.size + 1, 4, none⟩ (.int .i64 0)).setCell ⟨w.heap.size + 1, 5, none⟩ (.slice none 0 0)).heap.size = W5.heap.size := by simp
    obtain ⟨x30, x31, x32, x33, x34, x35, xf30, xf31, xf32, xf33, xf34, xf35, x3lt⟩ := K3_5.out
    obtain ⟨x60, x61, x62, x63, x64, x65, xf60, xf61, xf62, xf63, xf64, xf65, x6lt⟩ := K6_5.out
    obtain ⟨x80, x81, x82, xf80, xf81, xf82, x8lt⟩ := K8_5.out
    go_wp2_with fail
    obtain ⟨W6, hW6⟩ : ∃ W, ((((((W5.setCell ⟨w.heap.size + 1, 0, none⟩ (.int .i64 0)).setCell ⟨w.heap.size + 1, 1, none⟩ (.int .i64 0)).setCell ⟨w.heap.size + 1, 2, none⟩ (.slice none 0 0)).setCell ⟨w.heap.size + 1, 3, none⟩ (.int .i64 0)).setCell ⟨w.heap.size + 1, 4, none⟩ (.int .i64 0)).setCell ⟨w.heap.size + 1, 5, none⟩ (.slice none 0 0)) = W := ⟨_, rfl⟩
    rw [hW6] at K3_6 K6_6 K8_6 Ru_6 Rf_6 Sa_6 Sb_6 So_6 HB_6 z6 ⊢
    replace z6 := And.intro (Nat.le_of_eq z6) (Nat.le_of_eq z6.symm)
    clear x30 x31 x32 x33 x34 x35 xf30 xf31 xf32 xf33 xf34 xf35 x3lt x60 x61 x62 x63 x64 x65 xf60 xf61 xf62 xf63 xf64 xf65 x6lt x80 x81 x82 xf80 xf81 xf82 x8lt
    clear hW6 K3_5 K6_5 K8_5 Ru_5 Rf_5 Sa_5 Sb_5 So_5 HB_5
    obtain ⟨z0', z1', z2', z3', z4', z5', _, _, _, _, _, _, _⟩ := K6_6.out
    refine bodyPost_ret (v := .tuple #[smV 0 0 (.slice none 0 0) 0 0 (.slice none 0 0), .int .i64 0]) (by simp [results, Try.results27, go_sem, z0', z1', z2', z3', z4', z5']) rfl ?_
    exact ⟨rfl, HB_6.out⟩
set_option maxRecDepth 20000 in
set_option maxHeartbeats 6400000 in
theorem specOS_yes (r c : Int) (A : Option Addr) (cap n B : Nat) (zs : List Int) (r2 c2 : Int) (A2 : Option Addr) (cap2 n2 B2 : Nat) (ks : List Int) (Ao : Option Addr) (co no Bo : Nat) (os : List Int) (sd : Int) (w : World) (hs : Sl w B A zs) (hB : B ≤ w.heap.size) (e : n = zs.length) (hn : n ≤ 1100000) (hs2 : Sl w B2 A2 ks) (hB2 : B2 ≤ w.heap.size) (e2 : n2 = ks.length) (hn2 : n2 ≤ 1100000) (hso : Sl w Bo Ao os) (hBo : Bo ≤ w.heap.size) (eo : no = os.length) (hno : no ≤ 1100000) (h : (OkS r c zs r2 c2 ks ∧ OkR r c zs os ∧ 1 ≤ sd ∧ sd ≤ 2147483646)) :
    Calls Try.prog 27 #[smV r c (.slice A n cap) r2 c2 (.slice A2 n2 cap2), .slice Ao no co, .int .i64 sd] w fun e w' => ∃ s s2, e = .returned (.tuple #[smV r c s r c s2, .int .i64 (rSd sd zs.length)]) ∧ RowS w' w.heap.size w'.heap.size s s2 (pairZ addF (ordZ r c zs os) (rLs sd zs.length)) (pairZ subF (ordZ r c ks os) (rLs sd zs.length)) ∧ Below w.heap.size w w' := by
  subst e
  subst e2
  subst eo
  obtain ⟨hos, hor, hs1, hs2'⟩ := h
  obtain ⟨hm1, hm2, rfl, rfl⟩ := id hos
  have hl1 := hm1.len
  have hl2 := hm2.len
  have hr15 := hm1.1
  have hc15 := hm1.2.1
  have hor2 : OkR r c ks os := ⟨hm2, hor.2⟩
  have HO := Lib.hid hos
  have HV := Lib.hid hor.2.1
  have hbq2 : ((os.length : Int) != r) = false := by have := hor.2.2; simp; omega
  have he1 := ord_yes hor
  have he2 := ord_yes hor2
  have hol1 := he1.2.2.2
  have hol2 := he2.2.2.2
  have hrm := okM_rls sd hm1
  have hrl := rLs_len sd zs.length
  have hlk : ks.length = zs.length := by have h1 := hm1.2.2.1; have h2 := hm2.2.2.1; omega
  have HPP := Lib.hid (show r * c = (zs.length : Int) from hm1.2.2.1.symm)
  obtain ⟨ps, hps⟩ : ∃ x, ordZ r c zs os = x := ⟨_, rfl⟩
  obtain ⟨qs, hqs⟩ : ∃ x, ordZ r c ks os = x := ⟨_, rfl⟩
  obtain ⟨gs, hgs⟩ : ∃ x, rLs sd zs.length = x := ⟨_, rfl⟩
  obtain ⟨q, hq⟩ : ∃ x, rSd sd zs.length = x := ⟨_, rfl⟩
  rw [hps] at he1
  rw [hqs] at he2
  rw [hgs] at hrm hrl
  rw [hps, hqs, hgs, hq]
  have hml := hrm.len
  have h1ok : OkM r c ps := he1.2.2.1
  have h2ok : OkM r c qs := he2.2.2.1
  have hpl := h1ok.len
  have hql := h2ok.len
  obtain ⟨fs, hfs⟩ : ∃ x, pairZ addF ps gs = x := ⟨_, rfl⟩
  obtain ⟨ss, hss⟩ : ∃ x, pairZ subF qs gs = x := ⟨_, rfl⟩
  rw [hfs, hss]
  have HN := Lib.hid (show (ordR r c zs os = r ∧ ordC r c zs os = c ∧ ordZ r c zs os = ps) ∧ (ordR r c ks os = r ∧ ordC r c ks os = c ∧ ordZ r c ks os = qs) ∧ rLs sd zs.length = gs ∧ rSd sd zs.length = q ∧ pairZ addF ps gs = fs ∧ pairZ subF qs gs = ss from ⟨⟨he1.1, he1.2.1, hps⟩, ⟨he2.1, he2.2.1, hqs⟩, hgs, hq, hfs, hss⟩)
  have HM := Lib.hid (And.intro h1ok (And.intro h2ok hrm))
  clear hos hor hor2 he1 he2 hol1 hol2 hm1 hm2 hps hqs hgs hq hfs hss h1ok h2ok hrm hrl hlk
  have hr0 : (r == 0) = false := by simp; omega
  clear hbq2 HV
  have q3 := (Cell6.new (w) (.int .i64 r) (.int .i64 c) (.slice A zs.length cap) (.int .i64 r) (.int .i64 c) (.slice A2 ks.length cap2) 47).alloc (.cells #[.int .i64 0, .int .i64 0, .slice none 0 0, .int .i64 0, .int .i64 0, .slice none 0 0] 47)
  have q6 := Cell6.new (w.alloc (.cells #[.int .i64 r, .int .i64 c, .slice A zs.length cap, .int .i64 r, .int .i64 c, .slice A2 ks.length cap2] 47)) (.int .i64 0) (.int .i64 0) (.slice none 0 0) (.int .i64 0) (.int .i64 0) (.slice none 0 0) 47
  have hb : Below w.heap.size w ((w.alloc (.cells #[.int .i64 r, .int .i64 c, .slice A zs.length cap, .int .i64 r, .int .i64 c, .slice A2 ks.length cap2] 47)).alloc (.cells #[.int .i64 0, .int .i64 0, .slice none 0 0, .int .i64 0, .int .i64 0, .slice none 0 0] 47)) := ((Below.refl _ _).alloc (Nat.le_refl _) _).alloc (by simp) _
  have hsz : ((w.alloc (.cells #[.int .i64 r, .int .i64 c, .slice A zs.length cap, .int .i64 r, .int .i64 c, .slice A2 ks.length cap2] 47)).alloc (.cells #[.int .i64 0, .int .i64 0, .slice none 0 0, .int .i64 0, .int .i64 0, .slice none 0 0] 47)).heap.size = w.heap.size + 2 := by simp
  simp only [World.size_alloc] at q6
  obtain ⟨W0, hW⟩ : ∃ W, (w.alloc (.cells #[.int .i64 r, .int .i64 c, .slice A zs.length cap, .int .i64 r, .int .i64 c, .slice A2 ks.length cap2] 47)).alloc (.cells #[.int .i64 0, .int .i64 0, .slice none 0 0, .int .i64 0, .int .i64 0, .slice none 0 0] 47) = W := ⟨_, rfl⟩
  rw [hW] at q3 q6 hb hsz
  replace hsz := And.intro (Nat.le_of_eq hsz) (Nat.le_of_eq hsz.symm)
  have K3_0 := Lib.hid q3
  have K6_0 := Lib.hid q6
  have Sa_0 := Lib.hid (hs.below hb hB)
  have Sb_0 := Lib.hid (hs2.below hb hB2)
  have So_0 := Lib.hid (hso.below hb hBo)
  have HB_0 := Lib.hid hb
  clear hb q3 q6 hs hs2 hso
  go_enter Try.func27, Try.ntmps27
  obtain ⟨x30, x31, x32, x33, x34, x35, xf30, xf31, xf32, xf33, xf34, xf35, x3lt⟩ := K3_0.out
  obtain ⟨x60, x61, x62, x63, x64, x65, xf60, xf61, xf62, xf63, xf64, xf65, x6lt⟩ := K6_0.out
  go_wp2_with fail
  refine (ownS_any r c A cap _ B zs r c A2 cap2 _ B2 ks W0 Sa_0.out (by omega) rfl hn Sb_0.out (by omega) rfl hn2).mono ?_
  rintro e W1 ⟨sv1, tv1, rfl, hr, hb⟩
  obtain ⟨Au, cu, Bu, du, rfl, rfl, hcp1, hcp2⟩ := hr.form
  have HCPu := Lib.hid (And.intro hcp1 hcp2)
  clear hcp1 hcp2
  clear x30 x31 x32 x33 x34 x35 xf30 xf31 xf32 xf33 xf34 xf35 x3lt x60 x61 x62 x63 x64 x65 xf60 xf61 xf62 xf63 xf64 xf65 x6lt
  have s1 := hb.size
  have K3_1 := Lib.hid (K3_0.out.below hb (show w.heap.size < W0.heap.size by omega))
  have K6_1 := Lib.hid (K6_0.out.below hb (show w.heap.size + 1 < W0.heap.size by omega))
  have Sa_1 := Lib.hid (Sa_0.out.below hb (show B ≤ W0.heap.size by omega))
  have Sb_1 := Lib.hid (Sb_0.out.below hb (show B2 ≤ W0.heap.size by omega))
  have So_1 := Lib.hid (So_0.out.below hb (show Bo ≤ W0.heap.size by omega))
  have HB_1 := Lib.hid (HB_0.out.trans (hb.mono (show w.heap.size ≤ W0.heap.size by omega)))
  clear K3_0 K6_0 Sa_0 Sb_0 So_0 HB_0 hb hW
  have Ru_1 := Lib.hid hr
  clear hr
  have K3_2 := Lib.hid ((((((K3_1.out.set0 (.int .i64 r)).set1 (.int .i64 c)).set2 (.slice Au zs.length cu)).set3 (.int .i64 r)).set4 (.int .i64 c)).set5 (.slice Bu ks.length du))
  have K6_2 := Lib.hid ((((((K6_1.out.far (a := ⟨w.heap.size, 0, none⟩) (show w.heap.size + 1 ≠ w.heap.size by omega) (.int .i64 r)).far (a := ⟨w.heap.size, 1, none⟩) (show w.heap.size + 1 ≠ w.heap.size by omega) (.int .i64 c)).far (a := ⟨w.heap.size, 2, none⟩) (show w.heap.size + 1 ≠ w.heap.size by omega) (.slice Au zs.length cu)).far (a := ⟨w.heap.size, 3, none⟩) (show w.heap.size + 1 ≠ w.heap.size by omega) (.int .i64 r)).far (a := ⟨w.heap.size, 4, none⟩) (show w.heap.size + 1 ≠ w.heap.size by omega) (.int .i64 c)).far (a := ⟨w.heap.size, 5, none⟩) (show w.heap.size + 1 ≠ w.heap.size by omega) (.slice Bu ks.length du))
  have Ru_2 := Lib.hid ((((((Ru_1.out.grown (set_grown _ (w.heap.size) 0 (.int .i64 r)) (fun g e => by cases e; omega)).grown (set_grown _ (w.heap.size) 1 (.int .i64 c)) (fun g e => by cases e; omega)).grown (set_grown _ (w.heap.size) 2 (.slice Au zs.length cu)) (fun g e => by cases e; omega)).grown (set_grown _ (w.heap.size) 3 (.int .i64 r)) (fun g e => by cases e; omega)).grown (set_grown _ (w.heap.size) 4 (.int .i64 c)) (fun g e => by cases e; omega)).grown (set_grown _ (w.heap.size) 5 (.slice Bu ks.length du)) (fun g e => by cases e; omega))
  have Sa_2 := Lib.hid ((((((Sa_1.out.keep (w' := (W1.setCell ⟨w.heap.size, 0, none⟩ (.int .i64 r))) (fun p hp => World.cell?_setCell_other _ _ _ _ (fun e => by rw [← e] at hp; exact absurd (show w.heap.size < B from hp) (by omega)))).keep (w' := ((W1.setCell ⟨w.heap.size, 0, none⟩ (.int .i64 r)).setCell ⟨w.heap.size, 1, none⟩ (.int .i64 c))) (fun p hp => World.cell?_setCell_other _ _ _ _ (fun e => by rw [← e] at hp; exact absurd (show w.heap.size < B from hp) (by omega)))).keep (w' := (((W1.setCell ⟨w.heap.size, 0, none⟩ (.int .i64 r)).setCell ⟨w.heap.size, 1, none⟩ (.int .i64 c)).setCell ⟨w.heap.size, 2, none⟩ (.slice Au zs.length cu))) (fun p hp => World.cell?_setCell_other _ _ _ _ (fun e => by rw [← e] at hp; exact absurd (show w.heap.size < B from hp) (by omega)))).keep (w' := ((((W1.setCell ⟨w.heap.size, 0, none⟩ (.int .i64 r)).setCell ⟨w.heap.size, 1, none⟩ (.int .i64 c)).setCell ⟨w.heap.size, 2, none⟩ (.slice Au zs.length cu)).setCell ⟨w.heap.size, 3, none⟩ (.int .i64 r))) (fun p hp => World.cell?_setCell_other _ _ _ _ (fun e => by rw [← e] at hp; exact absurd (show w.heap.size < B from hp) (by omega)))).keep (w' := (((((W1.setCell ⟨w.heap.size, 0, none⟩ (.int .i64 r)).setCell ⟨w.heap.size, 1, none⟩ (.int .i64 c)).setCell ⟨w.heap.size, 2, none⟩ (.slice Au zs.length cu)).setCell ⟨w.heap.size, 3, none⟩ (.int .i64 r)).setCell ⟨w.heap.size, 4, none⟩ (.int .i64 c))) (fun p hp => World.cell?_setCell_other _ _ _ _ (fun e => by rw [← e] at hp; exact absurd (show w.heap.size < B from hp) (by omega)))).keep (w' := ((((((W1.setCell ⟨w.heap.size, 0, none⟩ (.int .i64 r)).setCell ⟨w.heap.size, 1, none⟩ (.int .i64 c)).setCell ⟨w.heap.size, 2, none⟩ (.slice Au zs.length cu)).setCell ⟨w.heap.size, 3, none⟩ (.int .i64 r)).setCell ⟨w.heap.size, 4, none⟩ (.int .i64 c)).setCell ⟨w.heap.size, 5, none⟩ (.slice Bu ks.length du))) (fun p hp => World.cell?_setCell_other _ _ _ _ (fun e => by rw [← e] at hp; exact absurd (show w.heap.size < B from hp) (by omega))))
  have Sb_2 := Lib.hid ((((((Sb_1.out.keep (w' := (W1.setCell ⟨w.heap.size, 0, none⟩ (.int .i64 r))) (fun p hp => World.cell?_setCell_other _ _ _ _ (fun e => by rw [← e] at hp; exact absurd (show w.heap.size < B2 from hp) (by omega)))).keep (w' := ((W1.setCell ⟨w.heap.size, 0, none⟩ (.int .i64 r)).setCell ⟨w.heap.size, 1, none⟩ (.int .i64 c))) (fun p hp => World.cell?_setCell_other _ _ _ _ (fun e => by rw [← e] at hp; exact absurd (show w.heap.size < B2 from hp) (by omega)))).keep (w' := (((W1.setCell ⟨w.heap.size, 0, none⟩ (.int .i64 r)).setCell ⟨w.heap.size, 1, none⟩ (.int .i64 c)).setCell ⟨w.heap.size, 2, none⟩ (.slice Au zs.length cu))) (fun p hp => World.cell?_setCell_other _ _ _ _ (fun e => by rw [← e] at hp; exact absurd (show w.heap.size < B2 from hp) (by omega)))).keep (w' := ((((W1.setCell ⟨w.heap.size, 0, none⟩ (.int .i64 r)).setCell ⟨w.heap.size, 1, none⟩ (.int .i64 c)).setCell ⟨w.heap.size, 2, none⟩ (.slice Au zs.length cu)).setCell ⟨w.heap.size, 3, none⟩ (.int .i64 r))) (fun p hp => World.cell?_setCell_other _ _ _ _ (fun e => by rw [← e] at hp; exact absurd (show w.heap.size < B2 from hp) (by omega)))).keep (w' := (((((W1.setCell ⟨w.heap.size, 0, none⟩ (.int .i64 r)).setCell ⟨w.heap.size, 1, none⟩ (.int .i64 c)).setCell ⟨w.heap.size, 2, none⟩ (.slice Au zs.length cu)).setCell ⟨w.heap.size, 3, none⟩ (.int .i64 r)).setCell ⟨w.heap.size, 4, none⟩ (.int .i64 c))) (fun p hp => World.cell?_setCell_other _ _ _ _ (fun e => by rw [← e] at hp; exact absurd (show w.heap.size < B2 from hp) (by omega)))).keep (w' := ((((((W1.setCell ⟨w.heap.size, 0, none⟩ (.int .i64 r)).setCell ⟨w.heap.size, 1, none⟩ (.int .i64 c)).setCell ⟨w.heap.size, 2, none⟩ (.slice Au zs.length cu)).setCell ⟨w.heap.size, 3, none⟩ (.int .i64 r)).setCell ⟨w.heap.size, 4, none⟩ (.int .i64 c)).setCell ⟨w.heap.size, 5, none⟩ (.slice Bu ks.length du))) (fun p hp => World.cell?_setCell_other _ _ _ _ (fun e => by rw [← e] at hp; exact absurd (show w.heap.size < B2 from hp) (by omega))))
  have So_2 := Lib.hid ((((((So_1.out.keep (w' := (W1.setCell ⟨w.heap.size, 0, none⟩ (.int .i64 r))) (fun p hp => World.cell?_setCell_other _ _ _ _ (fun e => by rw [← e] at hp; exact absurd (show w.heap.size < Bo from hp) (by omega)))).keep (w' := ((W1.setCell ⟨w.heap.size, 0, none⟩ (.int .i64 r)).setCell ⟨w.heap.size, 1, none⟩ (.int .i64 c))) (fun p hp => World.cell?_setCell_other _ _ _ _ (fun e => by rw [← e] at hp; exact absurd (show w.heap.size < Bo from hp) (by omega)))).keep (w' := (((W1.setCell ⟨w.heap.size, 0, none⟩ (.int .i64 r)).setCell ⟨w.heap.size, 1, none⟩ (.int .i64 c)).setCell ⟨w.heap.size, 2, none⟩ (.slice Au zs.length cu))) (fun p hp => World.cell?_setCell_other _ _ _ _ (fun e => by rw [← e] at hp; exact absurd (show w.heap.size < Bo from hp) (by omega)))).keep (w' := ((((W1.setCell ⟨w.heap.size, 0, none⟩ (.int .i64 r)).setCell ⟨w.heap.size, 1, none⟩ (.int .i64 c)).setCell ⟨w.heap.size, 2, none⟩ (.slice Au zs.length cu)).setCell ⟨w.heap.size, 3, none⟩ (.int .i64 r))) (fun p hp => World.cell?_setCell_other _ _ _ _ (fun e => by rw [← e] at hp; exact absurd (show w.heap.size < Bo from hp) (by omega)))).keep (w' := (((((W1.setCell ⟨w.heap.size, 0, none⟩ (.int .i64 r)).setCell ⟨w.heap.size, 1, none⟩ (.int .i64 c)).setCell ⟨w.heap.size, 2, none⟩ (.slice Au zs.length cu)).setCell ⟨w.heap.size, 3, none⟩ (.int .i64 r)).setCell ⟨w.heap.size, 4, none⟩ (.int .i64 c))) (fun p hp => World.cell?_setCell_other _ _ _ _ (fun e => by rw [← e] at hp; exact absurd (show w.heap.size < Bo from hp) (by omega)))).keep (w' := ((((((W1.setCell ⟨w.heap.size, 0, none⟩ (.int .i64 r)).setCell ⟨w.heap.size, 1, none⟩ (.int .i64 c)).setCell ⟨w.heap.size, 2, none⟩ (.slice Au zs.length cu)).setCell ⟨w.heap.size, 3, none⟩ (.int .i64 r)).setCell ⟨w.heap.size, 4, none⟩ (.int .i64 c)).setCell ⟨w.heap.size, 5, none⟩ (.slice Bu ks.length du))) (fun p hp => World.cell?_setCell_other _ _ _ _ (fun e => by rw [← e] at hp; exact absurd (show w.heap.size < Bo from hp) (by omega))))
  have HB_2 := Lib.hid ((((((HB_1.out.setCell (p := ⟨w.heap.size, 0, none⟩) (show w.heap.size ≤ w.heap.size by omega) (.int .i64 r)).setCell (p := ⟨w.heap.size, 1, none⟩) (show w.heap.size ≤ w.heap.size by omega) (.int .i64 c)).setCell (p := ⟨w.heap.size, 2, none⟩) (show w.heap.size ≤ w.heap.size by omega) (.slice Au zs.length cu)).setCell (p := ⟨w.heap.size, 3, none⟩) (show w.heap.size ≤ w.heap.size by omega) (.int .i64 r)).setCell (p := ⟨w.heap.size, 4, none⟩) (show w.heap.size ≤ w.heap.size by omega) (.int .i64 c)).setCell (p := ⟨w.heap.size, 5, none⟩) (show w.heap.size ≤ w.heap.size by omega) (.slice Bu ks.length du))
  have z2 : ((((((W1.setCell ⟨w.heap.size, 0, none⟩ (.int .i64 r)).setCell ⟨w.heap.size, 1, none⟩ (.int .i64 c)).setCell ⟨w.heap.size, 2, none⟩ (.slice Au zs.length cu)).setCell ⟨w.heap.size, 3, none⟩ (.int .i64 r)).setCell ⟨w.heap.size, 4, none⟩ (.int .i64 c)).setCell ⟨w.heap.size, 5, none⟩ (.slice Bu ks.length du)).heap.size = W1.heap.size := by simp
  obtain ⟨x30, x31, x32, x33, x34, x35, xf30, xf31, xf32, xf33, xf34, xf35, x3lt⟩ := K3_1.out
  obtain ⟨x60, x61, x62, x63, x64, x65, xf60, xf61, xf62, xf63, xf64, xf65, x6lt⟩ := K6_1.out
  go_wp2_with fail
  obtain ⟨W2, hW2⟩ : ∃ W, ((((((W1.setCell ⟨w.heap.size, 0, none⟩ (.int .i64 r)).setCell ⟨w.heap.size, 1, none⟩ (.int .i64 c)).setCell ⟨w.heap.size, 2, none⟩ (.slice Au zs.length cu)).setCell ⟨w.heap.size, 3, none⟩ (.int .i64 r)).setCell ⟨w.heap.size, 4, none⟩ (.int .i64 c)).setCell ⟨w.heap.size, 5, none⟩ (.slice Bu ks.length du)) = W := ⟨_, rfl⟩
  rw [hW2] at K3_2 K6_2 Ru_2 Sa_2 Sb_2 So_2 HB_2 z2 ⊢
  replace z2 := And.intro (Nat.le_of_eq z2) (Nat.le_of_eq z2.symm)
  clear x30 x31 x32 x33 x34 x35 xf30 xf31 xf32 xf33 xf34 xf35 x3lt x60 x61 x62 x63 x64 x65 xf60 xf61 xf62 xf63 xf64 xf65 x6lt
  clear hW2 K3_1 K6_1 Ru_1 Sa_1 Sb_1 So_1 HB_1
  refine (specOrd_any r c Au cu _ W2.heap.size zs Ao co _ Bo os W2 (Ru_2.out.sl1.more (show W1.heap.size ≤ W2.heap.size by omega)) (Nat.le_refl _) rfl hn So_2.out (by omega) rfl hno).mono ?_
  rintro e W3 ⟨sv3, rfl, hr, hb⟩
  rw [HN.out.1.1, HN.out.1.2.1]
  rw [HN.out.1.2.2] at hr
  obtain ⟨Af, cf, rfl, hcp1, hcp2, _⟩ := hr.form
  have HCPf := Lib.hid (And.intro hcp1 hcp2)
  clear hcp1 hcp2
  have s3 := hb.size
  have K3_3 := Lib.hid (K3_2.out.below hb (show w.heap.size < W2.heap.size by omega))
  have K6_3 := Lib.hid (K6_2.out.below hb (show w.heap.size + 1 < W2.heap.size by omega))
  have Ru_3 := Lib.hid (Ru_2.out.below hb (show W1.heap.size ≤ W2.heap.size by omega))
  have Sa_3 := Lib.hid (Sa_2.out.below hb (show B ≤ W2.heap.size by omega))
  have Sb_3 := Lib.hid (Sb_2.out.below hb (show B2 ≤ W2.heap.size by omega))
  have So_3 := Lib.hid (So_2.out.below hb (show Bo ≤ W2.heap.size by omega))
  have HB_3 := Lib.hid (HB_2.out.trans (hb.mono (show w.heap.size ≤ W2.heap.size by omega)))
  clear K3_2 K6_2 Ru_2 Sa_2 Sb_2 So_2 HB_2 hb
  have Rf_3 := Lib.hid hr
  clear hr
  have kn := Cell3.new W3 (.int .i64 r) (.int .i64 c) (.slice Af ps.length cf) 33
  obtain ⟨W4, hW4⟩ : ∃ W, W3.alloc (.cells #[.int .i64 r, .int .i64 c, .slice Af ps.length cf] 33) = W := ⟨_, rfl⟩
  rw [hW4] at kn
  have z4 : W4.heap.size = W3.heap.size + 1 := by rw [← hW4]; simp
  replace z4 := And.intro (Nat.le_of_eq z4) (Nat.le_of_eq z4.symm)
  have hal : Below W3.heap.size W3 W4 := hW4 ▸ (Below.refl _ _).alloc (Nat.le_refl _) _
  have s4 := hal.size
  have K3_4 := Lib.hid (K3_3.out.below hal (show w.heap.size < W3.heap.size by omega))
  have K6_4 := Lib.hid (K6_3.out.below hal (show w.heap.size + 1 < W3.heap.size by omega))
  have Ru_4 := Lib.hid (Ru_3.out.below hal (show W1.heap.size ≤ W3.heap.size by omega))
  have Rf_4 := Lib.hid (Rf_3.out.below hal (show W3.heap.size ≤ W3.heap.size by omega))
  have Sa_4 := Lib.hid (Sa_3.out.below hal (show B ≤ W3.heap.size by omega))
  have Sb_4 := Lib.hid (Sb_3.out.below hal (show B2 ≤ W3.heap.size by omega))
  have So_4 := Lib.hid (So_3.out.below hal (show Bo ≤ W3.heap.size by omega))
  have HB_4 := Lib.hid (HB_3.out.trans (hal.mono (show w.heap.size ≤ W3.heap.size by omega)))
  clear K3_3 K6_3 Ru_3 Rf_3 Sa_3 Sb_3 So_3 HB_3 hal
  have K8_4 := Lib.hid kn
  clear kn
  obtain ⟨x30, x31, x32, x33, x34, x35, xf30, xf31, xf32, xf33, xf34, xf35, x3lt⟩ := K3_4.out
  obtain ⟨x60, x61, x62, x63, x64, x65, xf60, xf61, xf62, xf63, xf64, xf65, x6lt⟩ := K6_4.out
  obtain ⟨x80, x81, x82, xf80, xf81, xf82, x8lt⟩ := K8_4.out
  go_wp2_with fail
  refine (specSMV_any r c Au cu _ W4.heap.size zs r c Bu du _ W4.heap.size ks W4 (Ru_4.out.sl1.more (show W1.heap.size ≤ W4.heap.size by omega)) (Nat.le_refl _) rfl hn (Ru_4.out.sl2.more (show W1.heap.size ≤ W4.heap.size by omega)) (Nat.le_refl _) rfl hn2 true ⟨fun _ => HO.out, fun _ => rfl⟩).mono ?_
  rintro e W5 ⟨rfl, hb⟩
  clear x30 x31 x32 x33 x34 x35 xf30 xf31 xf32 xf33 xf34 xf35 x3lt x60 x61 x62 x63 x64 x65 xf60 xf61 xf62 xf63 xf64 xf65 x6lt x80 x81 x82 xf80 xf81 xf82 x8lt
  have s5 := hb.size
  have K3_5 := Lib.hid (K3_4.out.below hb (show w.heap.size < W4.heap.size by omega))
  have K6_5 := Lib.hid (K6_4.out.below hb (show w.heap.size + 1 < W4.heap.size by omega))
  have K8_5 := Lib.hid (K8_4.out.below hb (show W3.heap.size < W4.heap.size by omega))
  have Ru_5 := Lib.hid (Ru_4.out.below hb (show W1.heap.size ≤ W4.heap.size by omega))
  have Rf_5 := Lib.hid (Rf_4.out.below hb (show W3.heap.size ≤ W4.heap.size by omega))
  have Sa_5 := Lib.hid (Sa_4.out.below hb (show B ≤ W4.heap.size by omega))
  have Sb_5 := Lib.hid (Sb_4.out.below hb (show B2 ≤ W4.heap.size by omega))
  have So_5 := Lib.hid (So_4.out.below hb (show Bo ≤ W4.heap.size by omega))
  have HB_5 := Lib.hid (HB_4.out.trans (hb.mono (show w.heap.size ≤ W4.heap.size by omega)))
  clear K3_4 K6_4 K8_4 Ru_4 Rf_4 Sa_4 Sb_4 So_4 HB_4 hb
  obtain ⟨x30, x31, x32, x33, x34, x35, xf30, xf31, xf32, xf33, xf34, xf35, x3lt⟩ := K3_5.out
  obtain ⟨x60, x61, x62, x63, x64, x65, xf60, xf61, xf62, xf63, xf64, xf65, x6lt⟩ := K6_5.out
  obtain ⟨x80, x81, x82, xf80, xf81, xf82, x8lt⟩ := K8_5.out
  go_wp2_with fail
  refine (l1In_yes _ _ _ _ hs1 hs2').mono ?_
  rintro e w' ⟨rfl, rfl⟩
  have hrmc := Lib.hid (specRM_yes r c sd zs.length W5 hr15 hc15 ⟨hs1, hs2'⟩ HPP.out (by omega))
  rw [HN.out.2.2.1, HN.out.2.2.2.1] at hrmc
  go_wp2_with fail
  refine (hrmc.out).mono ?_
  rintro e W6 ⟨sv6, rfl, hr, hb⟩
  obtain ⟨Ag, cg, rfl, hcp1, hcp2, _⟩ := hr.form
  have HCPg := Lib.hid (And.intro hcp1 hcp2)
  clear hcp1 hcp2
  clear x30 x31 x32 x33 x34 x35 xf30 xf31 xf32 xf33 xf34 xf35 x3lt x60 x61 x62 x63 x64 x65 xf60 xf61 xf62 xf63 xf64 xf65 x6lt x80 x81 x82 xf80 xf81 xf82 x8lt
  have s6 := hb.size
  have K3_6 := Lib.hid (K3_5.out.below hb (show w.heap.size < W5.heap.size by omega))
  have K6_6 := Lib.hid (K6_5.out.below hb (show w.heap.size + 1 < W5.heap.size by omega))
  have K8_6 := Lib.hid (K8_5.out.below hb (show W3.heap.size < W5.heap.size by omega))
  have Ru_6 := Lib.hid (Ru_5.out.below hb (show W1.heap.size ≤ W5.heap.size by omega))
  have Rf_6 := Lib.hid (Rf_5.out.below hb (show W3.heap.size ≤ W5.heap.size by omega))
  have Sa_6 := Lib.hid (Sa_5.out.below hb (show B ≤ W5.heap.size by omega))
  have Sb_6 := Lib.hid (Sb_5.out.below hb (show B2 ≤ W5.heap.size by omega))
  have So_6 := Lib.hid (So_5.out.below hb (show Bo ≤ W5.heap.size by omega))
  have HB_6 := Lib.hid (HB_5.out.trans (hb.mono (show w.heap.size ≤ W5.heap.size by omega)))
  clear K3_5 K6_5 K8_5 Ru_5 Rf_5 Sa_5 Sb_5 So_5 HB_5 hb
  have Rg_6 := Lib.hid hr
  clear hr
  clear hrmc
  have kn := Cell3.new W6 (.int .i64 r) (.int .i64 c) (.slice Ag gs.length cg) 33
  obtain ⟨W7, hW7⟩ : ∃ W, W6.alloc (.cells #[.int .i64 r, .int .i64 c, .slice Ag gs.length cg] 33) = W := ⟨_, rfl⟩
  rw [hW7] at kn
  have z7 : W7.heap.size = W6.heap.size + 1 := by rw [← hW7]; simp
  replace z7 := And.intro (Nat.le_of_eq z7) (Nat.le_of_eq z7.symm)
  have hal : Below W6.heap.size W6 W7 := hW7 ▸ (Below.refl _ _).alloc (Nat.le_refl _) _
  have s7 := hal.size
  have K3_7 := Lib.hid (K3_6.out.below hal (show w.heap.size < W6.heap.size by omega))
  have K6_7 := Lib.hid (K6_6.out.below hal (show w.heap.size + 1 < W6.heap.size by omega))
  have K8_7 := Lib.hid (K8_6.out.below hal (show W3.heap.size < W6.heap.size by omega))
  have Ru_7 := Lib.hid (Ru_6.out.below hal (show W1.heap.size ≤ W6.heap.size by omega))
  have Rf_7 := Lib.hid (Rf_6.out.below hal (show W3.heap.size ≤ W6.heap.size by omega))
  have Rg_7 := Lib.hid (Rg_6.out.below hal (show W6.heap.size ≤ W6.heap.size by omega))
  have Sa_7 := Lib.hid (Sa_6.out.below hal (show B ≤ W6.heap.size by omega))
  have Sb_7 := Lib.hid (Sb_6.out.below hal (show B2 ≤ W6.heap.size by omega))
  have So_7 := Lib.hid (So_6.out.below hal (show Bo ≤ W6.heap.size by omega))
  have HB_7 := Lib.hid (HB_6.out.trans (hal.mono (show w.heap.size ≤ W6.heap.size by omega)))
  clear K3_6 K6_6 K8_6 Ru_6 Rf_6 Rg_6 Sa_6 Sb_6 So_6 HB_6 hal
  have K9_7 := Lib.hid kn
  clear kn
  have hcA := Lib.hid fun wx (hx : Below W7.heap.size W7 wx) => specAdd_yes r c Af cf _ W7.heap.size ps Ag cg _ W7.heap.size gs wx ((Rf_7.out.sl_now.more (show W3.heap.size ≤ W7.heap.size by omega)).below hx (Nat.le_refl _)) hx.size rfl ((Rg_7.out.sl_now.more (show W6.heap.size ≤ W7.heap.size by omega)).below hx (Nat.le_refl _)) hx.size rfl HM.out.1 HM.out.2.2
  have hcO := Lib.hid fun wx (hx : Below W7.heap.size W7 wx) => specOrd_any r c Bu du _ W7.heap.size ks Ao co _ Bo os wx ((Ru_7.out.sl2.more (show W1.heap.size ≤ W7.heap.size by omega)).below hx (Nat.le_refl _)) hx.size rfl hn2 (So_7.out.below hx (show Bo ≤ W7.heap.size by omega)) (Nat.le_trans (show Bo ≤ W7.heap.size by omega) hx.size) rfl hno
  have hcS := Lib.hid fun (Aj : Option Addr) (cj : Nat) wx (hx : Below W7.heap.size W7 wx) (hq : Sl wx wx.heap.size Aj qs) => specSub_yes r c Aj cj _ wx.heap.size qs Ag cg _ W7.heap.size gs wx hq (Nat.le_refl _) rfl ((Rg_7.out.sl_now.more (show W6.heap.size ≤ W7.heap.size by omega)).below hx (Nat.le_refl _)) hx.size rfl HM.out.2.1 HM.out.2.2
  rw [HN.out.2.2.2.2.1] at hcA
  rw [HN.out.2.1.1, HN.out.2.1.2.1, HN.out.2.1.2.2] at hcO
  rw [HN.out.2.2.2.2.2] at hcS
  have HMK := Lib.hid fun w' (hx : Below W7.heap.size W7 w') => (show (w'.cell? ⟨W3.heap.size, 0, none⟩ = some (.int .i64 r) ∧ w'.cell? ⟨W3.heap.size, 1, none⟩ = some (.int .i64 c) ∧ w'.cell? ⟨W3.heap.size, 2, none⟩ = some (.slice Af ps.length cf)) ∧ (w'.cell? ⟨W6.heap.size, 0, none⟩ = some (.int .i64 r) ∧ w'.cell? ⟨W6.heap.size, 1, none⟩ = some (.int .i64 c) ∧ w'.cell? ⟨W6.heap.size, 2, none⟩ = some (.slice Ag gs.length cg)) ∧ (w'.cell? ⟨w.heap.size, 3, none⟩ = some (.int .i64 r) ∧ w'.cell? ⟨w.heap.size, 4, none⟩ = some (.int .i64 c) ∧ w'.cell? ⟨w.heap.size, 5, none⟩ = some (.slice Bu ks.length du)) from (by have h8 := (K8_7.out.below hx (show W3.heap.size < W7.heap.size by omega)); have h9 := (K9_7.out.below hx (show W6.heap.size < W7.heap.size by omega)); have h3 := (K3_7.out.below hx (show w.heap.size < W7.heap.size by omega)); exact ⟨⟨h8.c0, h8.c1, h8.c2⟩, ⟨h9.c0, h9.c1, h9.c2⟩, ⟨h3.c3, h3.c4, h3.c5⟩⟩))
  have HM2 := Lib.hid fun w' (hx : Below W7.heap.size W7 w') (v0 v1 v2 v3 v4 v5 : Value) => (show (((((((w'.setCell ⟨w.heap.size + 1, 0, none⟩ v0).setCell ⟨w.heap.size + 1, 1, none⟩ v1).setCell ⟨w.heap.size + 1, 2, none⟩ v2).setCell ⟨w.heap.size + 1, 3, none⟩ v3).setCell ⟨w.heap.size + 1, 4, none⟩ v4).setCell ⟨w.heap.size + 1, 5, none⟩ v5).cell? ⟨W3.heap.size, 0, none⟩ = some (.int .i64 r) ∧ ((((((w'.setCell ⟨w.heap.size + 1, 0, none⟩ v0).setCell ⟨w.heap.size + 1, 1, none⟩ v1).setCell ⟨w.heap.size + 1, 2, none⟩ v2).setCell ⟨w.heap.size + 1, 3, none⟩ v3).setCell ⟨w.heap.size + 1, 4, none⟩ v4).setCell ⟨w.heap.size + 1, 5, none⟩ v5).cell? ⟨W3.heap.size, 1, none⟩ = some (.int .i64 c) ∧ ((((((w'.setCell ⟨w.heap.size + 1, 0, none⟩ v0).setCell ⟨w.heap.size + 1, 1, none⟩ v1).setCell ⟨w.heap.size + 1, 2, none⟩ v2).setCell ⟨w.heap.size + 1, 3, none⟩ v3).setCell ⟨w.heap.size + 1, 4, none⟩ v4).setCell ⟨w.heap.size + 1, 5, none⟩ v5).cell? ⟨W3.heap.size, 2, none⟩ = some (.slice Af ps.length cf)) ∧ (((((((w'.setCell ⟨w.heap.size + 1, 0, none⟩ v0).setCell ⟨w.heap.size + 1, 1, none⟩ v1).setCell ⟨w.heap.size + 1, 2, none⟩ v2).setCell ⟨w.heap.size + 1, 3, none⟩ v3).setCell ⟨w.heap.size + 1, 4, none⟩ v4).setCell ⟨w.heap.size + 1, 5, none⟩ v5).cell? ⟨W6.heap.size, 0, none⟩ = some (.int .i64 r) ∧ ((((((w'.setCell ⟨w.heap.size + 1, 0, none⟩ v0).setCell ⟨w.heap.size + 1, 1, none⟩ v1).setCell ⟨w.heap.size + 1, 2, none⟩ v2).setCell ⟨w.heap.size + 1, 3, none⟩ v3).setCell ⟨w.heap.size + 1, 4, none⟩ v4).setCell ⟨w.heap.size + 1, 5, none⟩ v5).cell? ⟨W6.heap.size, 1, none⟩ = some (.int .i64 c) ∧ ((((((w'.setCell ⟨w.heap.size + 1, 0, none⟩ v0).setCell ⟨w.heap.size + 1, 1, none⟩ v1).setCell ⟨w.heap.size + 1, 2, none⟩ v2).setCell ⟨w.heap.size + 1, 3, none⟩ v3).setCell ⟨w.heap.size + 1, 4, none⟩ v4).setCell ⟨w.heap.size + 1, 5, none⟩ v5).cell? ⟨W6.heap.size, 2, none⟩ = some (.slice Ag gs.length cg)) ∧ (((((((w'.setCell ⟨w.heap.size + 1, 0, none⟩ v0).setCell ⟨w.heap.size + 1, 1, none⟩ v1).setCell ⟨w.heap.size + 1, 2, none⟩ v2).setCell ⟨w.heap.size + 1, 3, none⟩ v3).setCell ⟨w.heap.size + 1, 4, none⟩ v4).setCell ⟨w.heap.size + 1, 5, none⟩ v5).cell? ⟨w.heap.size, 3, none⟩ = some (.int .i64 r) ∧ ((((((w'.setCell ⟨w.heap.size + 1, 0, none⟩ v0).setCell ⟨w.heap.size + 1, 1, none⟩ v1).setCell ⟨w.heap.size + 1, 2, none⟩ v2).setCell ⟨w.heap.size + 1, 3, none⟩ v3).setCell ⟨w.heap.size + 1, 4, none⟩ v4).setCell ⟨w.heap.size + 1, 5, none⟩ v5).cell? ⟨w.heap.size, 4, none⟩ = some (.int .i64 c) ∧ ((((((w'.setCell ⟨w.heap.size + 1, 0, none⟩ v0).setCell ⟨w.heap.size + 1, 1, none⟩ v1).setCell ⟨w.heap.size + 1, 2, none⟩ v2).setCell ⟨w.heap.size + 1, 3, none⟩ v3).setCell ⟨w.heap.size + 1, 4, none⟩ v4).setCell ⟨w.heap.size + 1, 5, none⟩ v5).cell? ⟨w.heap.size, 5, none⟩ = some (.slice Bu ks.length du)) from (by have h8 := (((((((K8_7.out.below hx (show W3.heap.size < W7.heap.size by omega)).far (a := ⟨w.heap.size + 1, 0, none⟩) (show W3.heap.size ≠ w.heap.size + 1 by omega) v0).far (a := ⟨w.heap.size + 1, 1, none⟩) (show W3.heap.size ≠ w.heap.size + 1 by omega) v1).far (a := ⟨w.heap.size + 1, 2, none⟩) (show W3.heap.size ≠ w.heap.size + 1 by omega) v2).far (a := ⟨w.heap.size + 1, 3, none⟩) (show W3.heap.size ≠ w.heap.size + 1 by omega) v3).far (a := ⟨w.heap.size + 1, 4, none⟩) (show W3.heap.size ≠ w.heap.size + 1 by omega) v4).far (a := ⟨w.heap.size + 1, 5, none⟩) (show W3.heap.size ≠ w.heap.size + 1 by omega) v5); have h9 := (((((((K9_7.out.below hx (show W6.heap.size < W7.heap.size by omega)).far (a := ⟨w.heap.size + 1, 0, none⟩) (show W6.heap.size ≠ w.heap.size + 1 by omega) v0).far (a := ⟨w.heap.size + 1, 1, none⟩) (show W6.heap.size ≠ w.heap.size + 1 by omega) v1).far (a := ⟨w.heap.size + 1, 2, none⟩) (show W6.heap.size ≠ w.heap.size + 1 by omega) v2).far (a := ⟨w.heap.size + 1, 3, none⟩) (show W6.heap.size ≠ w.heap.size + 1 by omega) v3).far (a := ⟨w.heap.size + 1, 4, none⟩) (show W6.heap.size ≠ w.heap.size + 1 by omega) v4).far (a := ⟨w.heap.size + 1, 5, none⟩) (show W6.heap.size ≠ w.heap.size + 1 by omega) v5); have h3 := (((((((K3_7.out.below hx (show w.heap.size < W7.heap.size by omega)).far (a := ⟨w.heap.size + 1, 0, none⟩) (show w.heap.size ≠ w.heap.size + 1 by omega) v0).far (a := ⟨w.heap.size + 1, 1, none⟩) (show w.heap.size ≠ w.heap.size + 1 by omega) v1).far (a := ⟨w.heap.size + 1, 2, none⟩) (show w.heap.size ≠ w.heap.size + 1 by omega) v2).far (a := ⟨w.heap.size + 1, 3, none⟩) (show w.heap.size ≠ w.heap.size + 1 by omega) v3).far (a := ⟨w.heap.size + 1, 4, none⟩) (show w.heap.size ≠ w.heap.size + 1 by omega) v4).far (a := ⟨w.heap.size + 1, 5, none⟩) (show w.heap.size ≠ w.heap.size + 1 by omega) v5); exact ⟨⟨h8.c0, h8.c1, h8.c2⟩, ⟨h9.c0, h9.c1, h9.c2⟩, ⟨h3.c3, h3.c4, h3.c5⟩⟩))
  have hcur : Below W7.heap.size W7 W7.drew := Below.of_drew _
  obtain ⟨x30, x31, x32, x33, x34, x35, xf30, xf31, xf32, xf33, xf34, xf35, x3lt⟩ := K3_7.out
  obtain ⟨x60, x61, x62, x63, x64, x65, xf60, xf61, xf62, xf63, xf64, xf65, x6lt⟩ := K6_7.out
  obtain ⟨x80, x81, x82, xf80, xf81, xf82, x8lt⟩ := K8_7.out
  obtain ⟨x90, x91, x92, xf90, xf91, xf92, x9lt⟩ := K9_7.out
  go_wp2
  go_region_held3 (fun w' => (w'.cell? ⟨W3.heap.size, 0, none⟩ = some (.int .i64 r) ∧ w'.cell? ⟨W3.heap.size, 1, none⟩ = some (.int .i64 c) ∧ w'.cell? ⟨W3.heap.size, 2, none⟩ = some (.slice Af ps.length cf)) ∧ (w'.cell? ⟨W6.heap.size, 0, none⟩ = some (.int .i64 r) ∧ w'.cell? ⟨W6.heap.size, 1, none⟩ = some (.int .i64 c) ∧ w'.cell? ⟨W6.heap.size, 2, none⟩ = some (.slice Ag gs.length cg)) ∧ (w'.cell? ⟨w.heap.size, 3, none⟩ = some (.int .i64 r) ∧ w'.cell? ⟨w.heap.size, 4, none⟩ = some (.int .i64 c) ∧ w'.cell? ⟨w.heap.size, 5, none⟩ = some (.slice Bu ks.length du)))
    (first | with_reducible exact HMK.out _ hcur | with_reducible exact HM2.out _ hcur _ _ _ _ _ _ | fail)
    (first
      | (go_simp; go_at_call 56; (with_reducible refine (hcA.out W7.drew hcur).mono ?_); rintro e Wa ⟨sva, rfl, hra, hba⟩; obtain ⟨Ai, ci, rfl, _, _, _⟩ := hra.form; have hcur := hcur.trans (hba.mono hcur.size))
      | (go_simp; go_at_call 16; (with_reducible refine (hcO.out Wa hcur).mono ?_); rintro e Wb ⟨svb, rfl, hrb, hbb⟩; obtain ⟨Aj, cj, rfl, _, _, _⟩ := hrb.form; have hra := hra.below hbb (Nat.le_refl _); have hsb := hbb.size; have hcur := hcur.trans (hbb.mono hcur.size))
      | (go_simp; go_at_call 57; (with_reducible refine (hcS.out Aj cj Wb hcur hrb.sl_now).mono ?_); rintro e Wn ⟨svn, rfl, hrn, hbn⟩; obtain ⟨Ak, ck, rfl, _, _, _⟩ := hrn.form; have hra := hra.below hbn hsb; have hsn := hbn.size; have hsa := hba.size; have hcur := hcur.trans (hbn.mono hcur.size); obtain ⟨y0, y1, y2, y3, y4, y5, yf0, yf1, yf2, yf3, yf4, yf5, ylt⟩ := K6_7.out.below hcur (show w.heap.size + 1 < W7.heap.size by omega))
      | fail)
  clear x30 x31 x32 x33 x34 x35 xf30 xf31 xf32 xf33 xf34 xf35 x3lt x60 x61 x62 x63 x64 x65 xf60 xf61 xf62 xf63 xf64 xf65 x6lt x80 x81 x82 xf80 xf81 xf82 x8lt x90 x91 x92 xf90 xf91 xf92 x9lt
  obtain ⟨W8, hWn⟩ : ∃ W, W = Wn := ⟨_, rfl⟩
  subst hWn
  clear y0 y1 y2 y3 y4 y5 yf0 yf1 yf2 yf3 yf4 yf5 ylt HMK HM2
  have s8 := hcur.size
  have K3_8 := Lib.hid (K3_7.out.below hcur (show w.heap.size < W7.heap.size by omega))
  have K6_8 := Lib.hid (K6_7.out.below hcur (show w.heap.size + 1 < W7.heap.size by omega))
  have K8_8 := Lib.hid (K8_7.out.below hcur (show W3.heap.size < W7.heap.size by omega))
  have K9_8 := Lib.hid (K9_7.out.below hcur (show W6.heap.size < W7.heap.size by omega))
  have Ru_8 := Lib.hid (Ru_7.out.below hcur (show W1.heap.size ≤ W7.heap.size by omega))
  have Rf_8 := Lib.hid (Rf_7.out.below hcur (show W3.heap.size ≤ W7.heap.size by omega))
  have Rg_8 := Lib.hid (Rg_7.out.below hcur (show W6.heap.size ≤ W7.heap.size by omega))
  have Sa_8 := Lib.hid (Sa_7.out.below hcur (show B ≤ W7.heap.size by omega))
  have Sb_8 := Lib.hid (Sb_7.out.below hcur (show B2 ≤ W7.heap.size by omega))
  have So_8 := Lib.hid (So_7.out.below hcur (show Bo ≤ W7.heap.size by omega))
  have HB_8 := Lib.hid (HB_7.out.trans (hcur.mono (show w.heap.size ≤ W7.heap.size by omega)))
  clear K3_7 K6_7 K8_7 K9_7 Ru_7 Rf_7 Rg_7 Sa_7 Sb_7 So_7 HB_7 hcur
  have Ri_8 := Lib.hid (hra.wider (show W7.heap.size ≤ W7.drew.heap.size from Nat.le_refl _) hsb)
  have Rk_8 := Lib.hid hrn
  have hsa2 : W7.heap.size ≤ Wb.heap.size := Nat.le_trans hsa hsb
  clear hra hrn hrb hbb hba hbn hcA hcO hcS hsa
  have K3_9 := Lib.hid ((((((K3_8.out.far (a := ⟨w.heap.size + 1, 0, none⟩) (show w.heap.size ≠ w.heap.size + 1 by omega) (.int .i64 r)).far (a := ⟨w.heap.size + 1, 1, none⟩) (show w.heap.size ≠ w.heap.size + 1 by omega) (.int .i64 c)).far (a := ⟨w.heap.size + 1, 2, none⟩) (show w.heap.size ≠ w.heap.size + 1 by omega) (.slice Ai fs.length ci)).far (a := ⟨w.heap.size + 1, 3, none⟩) (show w.heap.size ≠ w.heap.size + 1 by omega) (.int .i64 r)).far (a := ⟨w.heap.size + 1, 4, none⟩) (show w.heap.size ≠ w.heap.size + 1 by omega) (.int .i64 c)).far (a := ⟨w.heap.size + 1, 5, none⟩) (show w.heap.size ≠ w.heap.size + 1 by omega) (.slice Ak ss.length ck))
  have K6_9 := Lib.hid ((((((K6_8.out.set0 (.int .i64 r)).set1 (.int .i64 c)).set2 (.slice Ai fs.length ci)).set3 (.int .i64 r)).set4 (.int .i64 c)).set5 (.slice Ak ss.length ck))
  have K8_9 := Lib.hid ((((((K8_8.out.far (a := ⟨w.heap.size + 1, 0, none⟩) (show W3.heap.size ≠ w.heap.size + 1 by omega) (.int .i64 r)).far (a := ⟨w.heap.size + 1, 1, none⟩) (show W3.heap.size ≠ w.heap.size + 1 by omega) (.int .i64 c)).far (a := ⟨w.heap.size + 1, 2, none⟩) (show W3.heap.size ≠ w.heap.size + 1 by omega) (.slice Ai fs.length ci)).far (a := ⟨w.heap.size + 1, 3, none⟩) (show W3.heap.size ≠ w.heap.size + 1 by omega) (.int .i64 r)).far (a := ⟨w.heap.size + 1, 4, none⟩) (show W3.heap.size ≠ w.heap.size + 1 by omega) (.int .i64 c)).far (a := ⟨w.heap.size + 1, 5, none⟩) (show W3.heap.size ≠ w.heap.size + 1 by omega) (.slice Ak ss.length ck))
  have K9_9 := Lib.hid ((((((K9_8.out.far (a := ⟨w.heap.size + 1, 0, none⟩) (show W6.heap.size ≠ w.heap.size + 1 by omega) (.int .i64 r)).far (a := ⟨w.heap.size + 1, 1, none⟩) (show W6.heap.size ≠ w.heap.size + 1 by omega) (.int .i64 c)).far (a := ⟨w.heap.size + 1, 2, none⟩) (show W6.heap.size ≠ w.heap.size + 1 by omega) (.slice Ai fs.length ci)).far (a := ⟨w.heap.size + 1, 3, none⟩) (show W6.heap.size ≠ w.heap.size + 1 by omega) (.int .i64 r)).far (a := ⟨w.heap.size + 1, 4, none⟩) (show W6.heap.size ≠ w.heap.size + 1 by omega) (.int .i64 c)).far (a := ⟨w.heap.size + 1, 5, none⟩) (show W6.heap.size ≠ w.heap.size + 1 by omega) (.slice Ak ss.length ck))
  have Ru_9 := Lib.hid ((((((Ru_8.out.grown (set_grown _ (w.heap.size + 1) 0 (.int .i64 r)) (fun g e => by cases e; omega)).grown (set_grown _ (w.heap.size + 1) 1 (.int .i64 c)) (fun g e => by cases e; omega)).grown (set_grown _ (w.heap.size + 1) 2 (.slice Ai fs.length ci)) (fun g e => by cases e; omega)).grown (set_grown _ (w.heap.size + 1) 3 (.int .i64 r)) (fun g e => by cases e; omega)).grown (set_grown _ (w.heap.size + 1) 4 (.int .i64 c)) (fun g e => by cases e; omega)).grown (set_grown _ (w.heap.size + 1) 5 (.slice Ak ss.length ck)) (fun g e => by cases e; omega))
  have Rf_9 := Lib.hid ((((((Rf_8.out.grown (set_grown _ (w.heap.size + 1) 0 (.int .i64 r)) (fun g e => by cases e; omega)).grown (set_grown _ (w.heap.size + 1) 1 (.int .i64 c)) (fun g e => by cases e; omega)).grown (set_grown _ (w.heap.size + 1) 2 (.slice Ai fs.length ci)) (fun g e => by cases e; omega)).grown (set_grown _ (w.heap.size + 1) 3 (.int .i64 r)) (fun g e => by cases e; omega)).grown (set_grown _ (w.heap.size + 1) 4 (.int .i64 c)) (fun g e => by cases e; omega)).grown (set_grown _ (w.heap.size + 1) 5 (.slice Ak ss.length ck)) (fun g e => by cases e; omega))
  have Rg_9 := Lib.hid ((((((Rg_8.out.grown (set_grown _ (w.heap.size + 1) 0 (.int .i64 r)) (fun g e => by cases e; omega)).grown (set_grown _ (w.heap.size + 1) 1 (.int .i64 c)) (fun g e => by cases e; omega)).grown (set_grown _ (w.heap.size + 1) 2 (.slice Ai fs.length ci)) (fun g e => by cases e; omega)).grown (set_grown _ (w.heap.size + 1) 3 (.int .i64 r)) (fun g e => by cases e; omega)).grown (set_grown _ (w.heap.size + 1) 4 (.int .i64 c)) (fun g e => by cases e; omega)).grown (set_grown _ (w.heap.size + 1) 5 (.slice Ak ss.length ck)) (fun g e => by cases e; omega))
  have Ri_9 := Lib.hid ((((((Ri_8.out.grown (set_grown _ (w.heap.size + 1) 0 (.int .i64 r)) (fun g e => by cases e; omega)).grown (set_grown _ (w.heap.size + 1) 1 (.int .i64 c)) (fun g e => by cases e; omega)).grown (set_grown _ (w.heap.size + 1) 2 (.slice Ai fs.length ci)) (fun g e => by cases e; omega)).grown (set_grown _ (w.heap.size + 1) 3 (.int .i64 r)) (fun g e => by cases e; omega)).grown (set_grown _ (w.heap.size + 1) 4 (.int .i64 c)) (fun g e => by cases e; omega)).grown (set_grown _ (w.heap.size + 1) 5 (.slice Ak ss.length ck)) (fun g e => by cases e; omega))
  have Rk_9 := Lib.hid ((((((Rk_8.out.grown (set_grown _ (w.heap.size + 1) 0 (.int .i64 r)) (fun g e => by cases e; omega)).grown (set_grown _ (w.heap.size + 1) 1 (.int .i64 c)) (fun g e => by cases e; omega)).grown (set_grown _ (w.heap.size + 1) 2 (.slice Ai fs.length ci)) (fun g e => by cases e; omega)).grown (set_grown _ (w.heap.size + 1) 3 (.int .i64 r)) (fun g e => by cases e; omega)).grown (set_grown _ (w.heap.size + 1) 4 (.int .i64 c)) (fun g e => by cases e; omega)).grown (set_grown _ (w.heap.size + 1) 5 (.slice Ak ss.length ck)) (fun g e => by cases e; omega))
  have Sa_9 := Lib.hid ((((((Sa_8.out.keep (w' := (W8.setCell ⟨w.heap.size + 1, 0, none⟩ (.int .i64 r))) (fun p hp => World.cell?_setCell_other _ _ _ _ (fun e => by rw [← e] at hp; exact absurd (show w.heap.size + 1 < B from hp) (by omega)))).keep (w' := ((W8.setCell ⟨w.heap.size + 1, 0, none⟩ (.int .i64 r)).setCell ⟨w.heap.size + 1, 1, none⟩ (.int .i64 c))) (fun p hp => World.cell?_setCell_other _ _ _ _ (fun e => by rw [← e] at hp; exact absurd (show w.heap.size + 1 < B from hp) (by omega)))).keep (w' := (((W8.setCell ⟨w.heap.size + 1, 0, none⟩ (.int .i64 r)).setCell ⟨w.heap.size + 1, 1, none⟩ (.int .i64 c)).setCell ⟨w.heap.size + 1, 2, none⟩ (.slice Ai fs.length ci))) (fun p hp => World.cell?_setCell_other _ _ _ _ (fun e => by rw [← e] at hp; exact absurd (show w.heap.size + 1 < B from hp) (by omega)))).keep (w' := ((((W8.setCell ⟨w.heap.size + 1, 0, none⟩ (.int .i64 r)).setCell ⟨w.heap.size + 1, 1, none⟩ (.int .i64 c)).setCell ⟨w.heap.size + 1, 2, none⟩ (.slice Ai fs.length ci)).setCell ⟨w.heap.size + 1, 3, none⟩ (.int .i64 r))) (fun p hp => World.cell?_setCell_other _ _ _ _ (fun e => by rw [← e] at hp; exact absurd (show w.heap.size + 1 < B from hp) (by omega)))).keep (w' := (((((W8.setCell ⟨w.heap.size + 1, 0, none⟩ (.int .i64 r)).setCell ⟨w.heap.size + 1, 1, none⟩ (.int .i64 c)).setCell ⟨w.heap.size + 1, 2, none⟩ (.slice Ai fs.length ci)).setCell ⟨w.heap.size + 1, 3, none⟩ (.int .i64 r)).setCell ⟨w.heap.size + 1, 4, none⟩ (.int .i64 c))) (fun p hp => World.cell?_setCell_other _ _ _ _ (fun e => by rw [← e] at hp; exact absurd (show w.heap.size + 1 < B from hp) (by omega)))).keep (w' := ((((((W8.setCell ⟨w.heap.size + 1, 0, none⟩ (.int .i64 r)).setCell ⟨w.heap.size + 1, 1, none⟩ (.int .i64 c)).setCell ⟨w.heap.size + 1, 2, none⟩ (.slice Ai fs.length ci)).setCell ⟨w.heap.size + 1, 3, none⟩ (.int .i64 r)).setCell ⟨w.heap.size + 1, 4, none⟩ (.int .i64 c)).setCell ⟨w.heap.size + 1, 5, none⟩ (.slice Ak ss.length ck))) (fun p hp => World.cell?_setCell_other _ _ _ _ (fun e => by rw [← e] at hp; exact absurd (show w.heap.size + 1 < B from hp) (by omega))))
  have Sb_9 := Lib.hid ((((((Sb_8.out.keep (w' := (W8.setCell ⟨w.heap.size + 1, 0, none⟩ (.int .i64 r))) (fun p hp => World.cell?_setCell_other _ _ _ _ (fun e => by rw [← e] at hp; exact absurd (show w.heap.size + 1 < B2 from hp) (by omega)))).keep (w' := ((W8.setCell ⟨w.heap.size + 1, 0, none⟩ (.int .i64 r)).setCell ⟨w.heap.size + 1, 1, none⟩ (.int .i64 c))) (fun p hp => World.cell?_setCell_other _ _ _ _ (fun e => by rw [← e] at hp; exact absurd (show w.heap.size + 1 < B2 from hp) (by omega)))).keep (w' := (((W8.setCell ⟨w.heap.size + 1, 0, none⟩ (.int .i64 r)).setCell ⟨w.heap.size + 1, 1, none⟩ (.int .i64 c)).setCell ⟨w.heap.size + 1, 2, none⟩ (.slice Ai fs.length ci))) (fun p hp => World.cell?_setCell_other _ _ _ _ (fun e => by rw [← e] at hp; exact absurd (show w.heap.size + 1 < B2 from hp) (by omega)))).keep (w' := ((((W8.setCell ⟨w.heap.size + 1, 0, none⟩ (.int .i64 r)).setCell ⟨w.heap.size + 1, 1, none⟩ (.int .i64 c)).setCell ⟨w.heap.size + 1, 2, none⟩ (.slice Ai fs.length ci)).setCell ⟨w.heap.size + 1, 3, none⟩ (.int .i64 r))) (fun p hp => World.cell?_setCell_other _ _ _ _ (fun e => by rw [← e] at hp; exact absurd (show w.heap.size + 1 < B2 from hp) (by omega)))).keep (w' := (((((W8.setCell ⟨w.heap.size + 1, 0, none⟩ (.int .i64 r)).setCell ⟨w.heap.size + 1, 1, none⟩ (.int .i64 c)).setCell ⟨w.heap.size + 1, 2, none⟩ (.slice Ai fs.length ci)).setCell ⟨w.heap.size + 1, 3, none⟩ (.int .i64 r)).setCell ⟨w.heap.size + 1, 4, none⟩ (.int .i64 c))) (fun p hp => World.cell?_setCell_other _ _ _ _ (fun e => by rw [← e] at hp; exact absurd (show w.heap.size + 1 < B2 from hp) (by omega)))).keep (w' := ((((((W8.setCell ⟨w.heap.size + 1, 0, none⟩ (.int .i64 r)).setCell ⟨w.heap.size + 1, 1, none⟩ (.int .i64 c)).setCell ⟨w.heap.size + 1, 2, none⟩ (.slice Ai fs.length ci)).setCell ⟨w.heap.size + 1, 3, none⟩ (.int .i64 r)).setCell ⟨w.heap.size + 1, 4, none⟩ (.int .i64 c)).setCell ⟨w.heap.size + 1, 5, none⟩ (.slice Ak ss.length ck))) (fun p hp => World.cell?_setCell_other _ _ _ _ (fun e => by rw [← e] at hp; exact absurd (show w.heap.size + 1 < B2 from hp) (by omega))))
  have So_9 := Lib.hid ((((((So_8.out.keep (w' := (W8.setCell ⟨w.heap.size + 1, 0, none⟩ (.int .i64 r))) (fun p hp => World.cell?_setCell_other _ _ _ _ (fun e => by rw [← e] at hp; exact absurd (show w.heap.size + 1 < Bo from hp) (by omega)))).keep (w' := ((W8.setCell ⟨w.heap.size + 1, 0, none⟩ (.int .i64 r)).setCell ⟨w.heap.size + 1, 1, none⟩ (.int .i64 c))) (fun p hp => World.cell?_setCell_other _ _ _ _ (fun e => by rw [← e] at hp; exact absurd (show w.heap.size + 1 < Bo from hp) (by omega)))).keep (w' := (((W8.setCell ⟨w.heap.size + 1, 0, none⟩ (.int .i64 r)).setCell ⟨w.heap.size + 1, 1, none⟩ (.int .i64 c)).setCell ⟨w.heap.size + 1, 2, none⟩ (.slice Ai fs.length ci))) (fun p hp => World.cell?_setCell_other _ _ _ _ (fun e => by rw [← e] at hp; exact absurd (show w.heap.size + 1 < Bo from hp) (by omega)))).keep (w' := ((((W8.setCell ⟨w.heap.size + 1, 0, none⟩ (.int .i64 r)).setCell ⟨w.heap.size + 1, 1, none⟩ (.int .i64 c)).setCell ⟨w.heap.size + 1, 2, none⟩ (.slice Ai fs.length ci)).setCell ⟨w.heap.size + 1, 3, none⟩ (.int .i64 r))) (fun p hp => World.cell?_setCell_other _ _ _ _ (fun e => by rw [← e] at hp; exact absurd (show w.heap.size + 1 < Bo from hp) (by omega)))).keep (w' := (((((W8.setCell ⟨w.heap.size + 1, 0, none⟩ (.int .i64 r)).setCell ⟨w.heap.size + 1, 1, none⟩ (.int .i64 c)).setCell ⟨w.heap.size + 1, 2, none⟩ (.slice Ai fs.length ci)).setCell ⟨w.heap.size + 1, 3, none⟩ (.int .i64 r)).setCell ⟨w.heap.size + 1, 4, none⟩ (.int .i64 c))) (fun p hp => World.cell?_setCell_other _ _ _ _ (fun e => by rw [← e] at hp; exact absurd (show w.heap.size + 1 < Bo from hp) (by omega)))).keep (w' := ((((((W8.setCell ⟨w.heap.size + 1, 0, none⟩ (.int .i64 r)).setCell ⟨w.heap.size + 1, 1, none⟩ (.int .i64 c)).setCell ⟨w.heap.size + 1, 2, none⟩ (.slice Ai fs.length ci)).setCell ⟨w.heap.size + 1, 3, none⟩ (.int .i64 r)).setCell ⟨w.heap.size + 1, 4, none⟩ (.int .i64 c)).setCell ⟨w.heap.size + 1, 5, none⟩ (.slice Ak ss.length ck))) (fun p hp => World.cell?_setCell_other _ _ _ _ (fun e => by rw [← e] at hp; exact absurd (show w.heap.size + 1 < Bo from hp) (by omega))))
  have HB_9 := Lib.hid ((((((HB_8.out.setCell (p := ⟨w.heap.size + 1, 0, none⟩) (show w.heap.size ≤ w.heap.size + 1 by omega) (.int .i64 r)).setCell (p := ⟨w.heap.size + 1, 1, none⟩) (show w.heap.size ≤ w.heap.size + 1 by omega) (.int .i64 c)).setCell (p := ⟨w.heap.size + 1, 2, none⟩) (show w.heap.size ≤ w.heap.size + 1 by omega) (.slice Ai fs.length ci)).setCell (p := ⟨w.heap.size + 1, 3, none⟩) (show w.heap.size ≤ w.heap.size + 1 by omega) (.int .i64 r)).setCell (p := ⟨w.heap.size + 1, 4, none⟩) (show w.heap.size ≤ w.heap.size + 1 by omega) (.int .i64 c)).setCell (p := ⟨w.heap.size + 1, 5, none⟩) (show w.heap.size ≤ w.heap.size + 1 by omega) (.slice Ak ss.length ck))
  have z9 : ((((((W8.setCell ⟨w.heap.size + 1, 0, none⟩ (.int .i64 r)).setCell ⟨w.heap.size + 1, 1, none⟩ (.int .i64 c)).setCell ⟨w.heap.size + 1, 2, none⟩ (.slice Ai fs.length ci)).setCell ⟨w.heap.size + 1, 3, none⟩ (.int .i64 r)).setCell ⟨w.heap.size + 1, 4, none⟩ (.int .i64 c)).setCell ⟨w.heap.size + 1, 5, none⟩ (.slice Ak ss.length ck)).heap.size = W8.heap.size := by simp
  obtain ⟨x30, x31, x32, x33, x34, x35, xf30, xf31, xf32, xf33, xf34, xf35, x3lt⟩ := K3_8.out
  obtain ⟨x60, x61, x62, x63, x64, x65, xf60, xf61, xf62, xf63, xf64, xf65, x6lt⟩ := K6_8.out
  obtain ⟨x80, x81, x82, xf80, xf81, xf82, x8lt⟩ := K8_8.out
  obtain ⟨x90, x91, x92, xf90, xf91, xf92, x9lt⟩ := K9_8.out
  go_wp2_with fail
  obtain ⟨W9, hW9⟩ : ∃ W, ((((((W8.setCell ⟨w.heap.size + 1, 0, none⟩ (.int .i64 r)).setCell ⟨w.heap.size + 1, 1, none⟩ (.int .i64 c)).setCell ⟨w.heap.size + 1, 2, none⟩ (.slice Ai fs.length ci)).setCell ⟨w.heap.size + 1, 3, none⟩ (.int .i64 r)).setCell ⟨w.heap.size + 1, 4, none⟩ (.int .i64 c)).setCell ⟨w.heap.size + 1, 5, none⟩ (.slice Ak ss.length ck)) = W := ⟨_, rfl⟩
  rw [hW9] at K3_9 K6_9 K8_9 K9_9 Ru_9 Rf_9 Rg_9 Ri_9 Rk_9 Sa_9 Sb_9 So_9 HB_9 z9 ⊢
  replace z9 := And.intro (Nat.le_of_eq z9) (Nat.le_of_eq z9.symm)
  clear x30 x31 x32 x33 x34 x35 xf30 xf31 xf32 xf33 xf34 xf35 x3lt x60 x61 x62 x63 x64 x65 xf60 xf61 xf62 xf63 xf64 xf65 x6lt x80 x81 x82 xf80 xf81 xf82 x8lt x90 x91 x92 xf90 xf91 xf92 x9lt
  clear hW9 K3_8 K6_8 K8_8 K9_8 Ru_8 Rf_8 Rg_8 Ri_8 Rk_8 Sa_8 Sb_8 So_8 HB_8
  obtain ⟨z0', z1', z2', z3', z4', z5', _, _, _, _, _, _, _⟩ := K6_9.out
  refine bodyPost_ret (v := .tuple #[smV r c (.slice Ai fs.length ci) r c (.slice Ak ss.length ck), .int .i64 q]) (by simp [results, Try.results27, go_sem, z0', z1', z2', z3', z4', z5']) rfl ?_
  exact ⟨_, _, rfl, ⟨Wb.heap.size, by omega, by omega, Ri_9.out.wider (by omega) (Nat.le_refl _), Rk_9.out.wider (Nat.le_refl _) (by omega)⟩, HB_9.out⟩
section
open Classical
noncomputable def osR (r c : Int) (zs : List Int) (r2 c2 : Int) (ks os : List Int) (sd : Int) : Int := if (OkS r c zs r2 c2 ks ∧ OkR r c zs os ∧ 1 ≤ sd ∧ sd ≤ 2147483646) then r else 0
noncomputable def osC (r c : Int) (zs : List Int) (r2 c2 : Int) (ks os : List Int) (sd : Int) : Int := if (OkS r c zs r2 c2 ks ∧ OkR r c zs os ∧ 1 ≤ sd ∧ sd ≤ 2147483646) then c else 0
noncomputable def osZ (r c : Int) (zs : List Int) (r2 c2 : Int) (ks os : List Int) (sd : Int) : List Int := if (OkS r c zs r2 c2 ks ∧ OkR r c zs os ∧ 1 ≤ sd ∧ sd ≤ 2147483646) then pairZ addF (ordZ r c zs os) (rLs sd zs.length) else []
noncomputable def osK (r c : Int) (zs : List Int) (r2 c2 : Int) (ks os : List Int) (sd : Int) : List Int := if (OkS r c zs r2 c2 ks ∧ OkR r c zs os ∧ 1 ≤ sd ∧ sd ≤ 2147483646) then pairZ subF (ordZ r c ks os) (rLs sd zs.length) else []
noncomputable def osN (r c : Int) (zs : List Int) (r2 c2 : Int) (ks os : List Int) (sd : Int) : Int := if (OkS r c zs r2 c2 ks ∧ OkR r c zs os ∧ 1 ≤ sd ∧ sd ≤ 2147483646) then rSd sd zs.length else 0
end
theorem implOS_any (r c : Int) (A : Option Addr) (cap n B : Nat) (zs : List Int) (r2 c2 : Int) (A2 : Option Addr) (cap2 n2 B2 : Nat) (ks : List Int) (Ao : Option Addr) (co no Bo : Nat) (os : List Int) (sd : Int) (w : World) (hs : Sl w B A zs) (hB : B ≤ w.heap.size) (e : n = zs.length) (hn : n ≤ 1100000) (hs2 : Sl w B2 A2 ks) (hB2 : B2 ≤ w.heap.size) (e2 : n2 = ks.length) (hn2 : n2 ≤ 1100000) (hso : Sl w Bo Ao os) (hBo : Bo ≤ w.heap.size) (eo : no = os.length) (hno : no ≤ 1100000) (hnc : n ≤ cap) (hcm : cap ≤ maxLen) (hnc2 : n2 ≤ cap2) (hcm2 : cap2 ≤ maxLen) :
    Calls Try.prog 29 #[smV r c (.slice A n cap) r2 c2 (.slice A2 n2 cap2), .slice Ao no co, .int .i64 sd] w fun e w' => ∃ s s2, e = .returned (.tuple #[smV (osR r c zs r2 c2 ks os sd) (osC r c zs r2 c2 ks os sd) s (osR r c zs r2 c2 ks os sd) (osC r c zs r2 c2 ks os sd) s2, .int .i64 (osN r c zs r2 c2 ks os sd)]) ∧ RowS w' w.heap.size w'.heap.size s s2 (osZ r c zs r2 c2 ks os sd) (osK r c zs r2 c2 ks os sd) ∧ Below w.heap.size w w' := by
  unfold osR osC osZ osK osN
  by_cases h : (OkS r c zs r2 c2 ks ∧ OkR r c zs os ∧ 1 ≤ sd ∧ sd ≤ 2147483646)
  · rw [if_pos h, if_pos h, if_pos h, if_pos h, if_pos h]
    exact implOS_yes r c A cap n B zs r2 c2 A2 cap2 n2 B2 ks Ao co no Bo os sd w hs hB e hn hs2 hB2 e2 hn2 hso hBo eo hno hnc hcm hnc2 hcm2 h
  · rw [if_neg h, if_neg h, if_neg h, if_neg h, if_neg h]
    exact (implOS_no r c A cap n B zs r2 c2 A2 cap2 n2 B2 ks Ao co no Bo os sd w hs hB e hn hs2 hB2 e2 hn2 hso hBo eo hno h).mono fun e w' ⟨h1, h2⟩ => ⟨_, _, h1, RowS.nil_ _ _ _ h2.size, h2⟩
theorem specOS_any (r c : Int) (A : Option Addr) (cap n B : Nat) (zs : List Int) (r2 c2 : Int) (A2 : Option Addr) (cap2 n2 B2 : Nat) (ks : List Int) (Ao : Option Addr) (co no Bo : Nat) (os : List Int) (sd : Int) (w : World) (hs : Sl w B A zs) (hB : B ≤ w.heap.size) (e : n = zs.length) (hn : n ≤ 1100000) (hs2 : Sl w B2 A2 ks) (hB2 : B2 ≤ w.heap.size) (e2 : n2 = ks.length) (hn2 : n2 ≤ 1100000) (hso : Sl w Bo Ao os) (hBo : Bo ≤ w.heap.size) (eo : no = os.length) (hno : no ≤ 1100000) :
    Calls Try.prog 27 #[smV r c (.slice A n cap) r2 c2 (.slice A2 n2 cap2), .slice Ao no co, .int .i64 sd] w fun e w' => ∃ s s2, e = .returned (.tuple #[smV (osR r c zs r2 c2 ks os sd) (osC r c zs r2 c2 ks os sd) s (osR r c zs r2 c2 ks os sd) (osC r c zs r2 c2 ks os sd) s2, .int .i64 (osN r c zs r2 c2 ks os sd)]) ∧ RowS w' w.heap.size w'.heap.size s s2 (osZ r c zs r2 c2 ks os sd) (osK r c zs r2 c2 ks os sd) ∧ Below w.heap.size w w' := by
  unfold osR osC osZ osK osN
  by_cases h : (OkS r c zs r2 c2 ks ∧ OkR r c zs os ∧ 1 ≤ sd ∧ sd ≤ 2147483646)
  · rw [if_pos h, if_pos h, if_pos h, if_pos h, if_pos h]
    exact specOS_yes r c A cap n B zs r2 c2 A2 cap2 n2 B2 ks Ao co no Bo os sd w hs hB e hn hs2 hB2 e2 hn2 hso hBo eo hno h
  · rw [if_neg h, if_neg h, if_neg h, if_neg h, if_neg h]
    exact (specOS_no r c A cap n B zs r2 c2 A2 cap2 n2 B2 ks Ao co no Bo os sd w hs hB e hn hs2 hB2 e2 hn2 hso hBo eo hno h).mono fun e w' ⟨h1, h2⟩ => ⟨_, _, h1, RowS.nil_ _ _ _ h2.size, h2⟩
theorem osZ_len (r c : Int) (zs : List Int) (r2 c2 : Int) (ks os : List Int) (sd : Int) : (osZ r c zs r2 c2 ks os sd).length ≤ 1048576 ∧ (osK r c zs r2 c2 ks os sd).length ≤ 1048576 := by
  unfold osZ osK
  split
  · next h =>
    have h1 := (ord_yes h.2.1).2.2.1.len
    have h2 := (ord_yes (show OkR r c ks os from ⟨by obtain ⟨_, hm, rfl, rfl⟩ := h.1; exact hm, h.2.1.2⟩)).2.2.1.len
    rw [pairZ_len, pairZ_len]
    omega
  · simp
end Go.Proofs.Ytilmglockldddaa
