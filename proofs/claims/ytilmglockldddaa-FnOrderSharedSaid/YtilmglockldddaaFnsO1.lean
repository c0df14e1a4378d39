/- Contracts: ordered shared matrices, the program's. (Printed by gen_R7.py.) -/
import Derived.Test.YtilmglockldddaaFnsR7
import Derived.Test.YtilmglockldddaaFnsR3
import Derived.Test.YtilmglockldddaaMatS2
import Derived.Test.YtilmglockldddaaLawD2
import Derived.Deep.RegionHeld3
import Derived.Deep.Cut
import Derived.Deep.CutRange
import Derived.Deep.DeepCutAuto
namespace Go.Proofs.Ytilmglockldddaa
open Go.RowKit
theorem ord_yes {r c : Int} {zs os : List Int} (h : OkR r c zs os) : ordR r c zs os = r ∧ ordC r c zs os = c ∧ OkM r c (ordZ r c zs os) ∧ (ordZ r c zs os).length = zs.length := by
  unfold ordR ordC ordZ
  rw [if_pos h, if_pos h, if_pos h]
  obtain ⟨hm, ho, hl⟩ := h
  obtain ⟨rn, rfl⟩ := Int.eq_ofNat_of_zero_le (show 0 ≤ r by have := hm.1; omega)
  obtain ⟨cn, rfl⟩ := Int.eq_ofNat_of_zero_le (show 0 ≤ c by have := hm.2.1; omega)
  simp only [Int.toNat_natCast]
  have e : ((rn * cn : Nat) : Int) = (rn : Int) * (cn : Int) := by simp
  have hzl : zs.length = rn * cn := by have := hm.2.2.1; omega
  have hol : (orderZ rn cn zs os).length = rn * cn := by rw [orderZ_len]
  refine ⟨trivial, trivial, ⟨hm.1, hm.2.1, by rw [hol, e], fun j hj => ?_⟩, by rw [hol, hzl]⟩
  exact tab_rng (f := orderF cn zs os) (fun a b _ _ => getD_rng hm.2.2.2 _) j hj

set_option maxHeartbeats 800000 in
theorem implRM_yes (r c s : Int) (P : Nat) (w : World) (hr : 1 ≤ r ∧ r ≤ 5) (hc : 1 ≤ c ∧ c ≤ 5) (hs : 1 ≤ s ∧ s ≤ 2147483646) (hP : r * c = (P : Int)) (hP2 : P ≤ 25) :
    Calls Try.prog 59 #[.int .i64 r, .int .i64 c, .int .i64 s] w fun e w' => ∃ v, e = .returned (.tuple #[matV r c v, .int .i64 (rSd s P)]) ∧ Row w' w.heap.size w'.heap.size v (rLs s P) ∧ Below w.heap.size w w' := by
  have k0 := Cell3.new w (.int .i64 0) (.int .i64 0) (.slice none 0 0) 33
  have hb0 := (Below.refl w.heap.size w).alloc (Nat.le_refl _) (.cells #[.int .i64 0, .int .i64 0, .slice none 0 0] 33)
  obtain ⟨W, hW⟩ : ∃ W, w.alloc (.cells #[.int .i64 0, .int .i64 0, .slice none 0 0] 33) = W := ⟨_, rfl⟩
  rw [hW] at k0 hb0
  have HSW := Lib.hid (show W.heap.size = w.heap.size + 1 by rw [← hW]; simp)
  have K0 := Lib.hid k0
  have HB0 := Lib.hid hb0
  have hw : IntKind.i64.wrap (P : Int) = (P : Int) := wrap_in (by omega) (by omega)
  have HC := Lib.hid (implRL_yes s P W hs (by omega))
  have HRL := Lib.hid (rLs_len s P)
  obtain ⟨q, hq⟩ : ∃ q, rSd s P = q := ⟨_, rfl⟩
  obtain ⟨ys, hys⟩ : ∃ ys, rLs s P = ys := ⟨_, rfl⟩
  rw [hq, hys] at HC
  rw [hys] at HRL
  rw [hq, hys]
  obtain ⟨hr1, hr2⟩ := hr
  obtain ⟨hc1, hc2⟩ := hc
  obtain ⟨hs1, hs2⟩ := hs
  clear k0 hb0 hq hys
  go_enter Try.func59, Try.ntmps59
  go_wp2_with fail
  refine (sideValid_yes _ _ hr1 hr2).mono ?_
  rintro e w' ⟨rfl, rfl⟩
  go_wp2_with fail
  refine (sideValid_yes _ _ hc1 hc2).mono ?_
  rintro e w' ⟨rfl, rfl⟩
  go_wp2_with fail
  refine (seedValid_yes _ _ hs1 hs2).mono ?_
  rintro e w' ⟨rfl, rfl⟩
  go_wp2_with fail
  refine HC.out.mono ?_
  rintro e w1 ⟨v, rfl, hr, hb⟩
  obtain ⟨A1, c1, rfl, _, _, _⟩ := hr.form
  have hsW := HSW.out
  have K1 := K0.out.below hb (by omega)
  have B1 := HB0.out.trans (hb.mono (by omega))
  have HE := Lib.hid (mat_ret0 (r := .int .i64 r) (c := .int .i64 c) (Nat.le_refl _) K1 hr (by omega) B1)
  have hlo := Lib.hid (show w.heap.size ≤ W.heap.size by omega)
  obtain ⟨v0, v1, v2, p0, p1, p2, vl⟩ := K1
  clear hr hb B1 hsW hW hw hP K0 HB0 HC
  go_wp2
  obtain ⟨⟨z0, z1, z2, _, _, _, _⟩, e1, e2⟩ := HE.out
  refine bodyPost_ret (v := .tuple #[matV r c (.slice A1 ys.length c1), .int .i64 q]) (by simp [results, Try.results59, go_sem, z0, z1, z2]) rfl ?_
  exact ⟨_, rfl, e1.wider hlo.out (Nat.le_refl _), e2⟩
set_option maxHeartbeats 3200000 in
theorem implOS_no (r c : Int) (A : Option Addr) (cap n B : Nat) (zs : List Int) (r2 c2 : Int) (A2 : Option Addr) (cap2 n2 B2 : Nat) (ks : List Int) (Ao : Option Addr) (co no Bo : Nat) (os : List Int) (sd : Int) (w : World) (hs : Sl w B A zs) (hB : B ≤ w.heap.size) (e : n = zs.length) (hn : n ≤ 1100000) (hs2 : Sl w B2 A2 ks) (hB2 : B2 ≤ w.heap.size) (e2 : n2 = ks.length) (hn2 : n2 ≤ 1100000) (hso : Sl w Bo Ao os) (hBo : Bo ≤ w.heap.size) (eo : no = os.length) (hno : no ≤ 1100000) (h : ¬ (OkS r c zs r2 c2 ks ∧ OkR r c zs os ∧ 1 ≤ sd ∧ sd ≤ 2147483646)) :
    Calls Try.prog 29 #[smV r c (.slice A n cap) r2 c2 (.slice A2 n2 cap2), .slice Ao no co, .int .i64 sd] w fun e w' => e = .returned (.tuple #[smV 0 0 (.slice none 0 0) 0 0 (.slice none 0 0), .int .i64 0]) ∧ Below w.heap.size w w' := by
  subst e
  subst e2
  subst eo
  by_cases ho : OkS r c zs r2 c2 ks
  · have HO := Lib.hid ho
    by_cases hv : OkO os
    · have HV := Lib.hid hv
      by_cases hl : (os.length : Int) = r
      · have hsd : sd < 1 ∨ 2147483646 < sd := by
          apply Classical.byContradiction
          intro hh
          exact h ⟨ho, ⟨ho.1, hv, hl⟩, by omega, by omega⟩
        have hbq2 : ((os.length : Int) != r) = false := by simp; omega
        clear h ho hv hl
        have q3 := (Cell6.new (w) (.int .i64 r) (.int .i64 c) (.slice A zs.length cap) (.int .i64 r2) (.int .i64 c2) (.slice A2 ks.length cap2) 47).alloc (.cells #[.int .i64 0, .int .i64 0, .slice none 0 0, .int .i64 0, .int .i64 0, .slice none 0 0] 47)
        have q6 := Cell6.new (w.alloc (.cells #[.int .i64 r, .int .i64 c, .slice A zs.length cap, .int .i64 r2, .int .i64 c2, .slice A2 ks.length cap2] 47)) (.int .i64 0) (.int .i64 0) (.slice none 0 0) (.int .i64 0) (.int .i64 0) (.slice none 0 0) 47
        have hb : Below w.heap.size w ((w.alloc (.cells #[.int .i64 r, .int .i64 c, .slice A zs.length cap, .int .i64 r2, .int .i64 c2, .slice A2 ks.length cap2] 47)).alloc (.cells #[.int .i64 0, .int .i64 0, .slice none 0 0, .int .i64 0, .int .i64 0, .slice none 0 0] 47)) := ((Below.refl _ _).alloc (Nat.le_refl _) _).alloc (by simp) _
        have hsz : ((w.alloc (.cells #[.int .i64 r, .int .i64 c, .slice A zs.length cap, .int .i64 r2, .int .i64 c2, .slice A2 ks.length cap2] 47)).alloc (.cells #[.int .i64 0, .int .i64 0, .slice none 0 0, .int .i64 0, .int .i64 0, .slice none 0 0] 47)).heap.size = w.heap.size + 2 := by simp
        simp only [World.size_alloc] at q6
        obtain ⟨W0, hW⟩ : ∃ W, (w.alloc (.cells #[.int .i64 r, .int .i64 c, .slice A zs.length cap, .int .i64 r2, .int .i64 c2, .slice A2 ks.length cap2] 47)).alloc (.cells #[.int .i64 0, .int .i64 0, .slice none 0 0, .int .i64 0, .int .i64 0, .slice none 0 0] 47) = W := ⟨_, rfl⟩
        rw [hW] at q3 q6 hb hsz
        replace hsz := And.intro (Nat.le_of_eq hsz) (Nat.le_of_eq hsz.symm)
        have K3_0 := Lib.hid q3
        have K6_0 := Lib.hid q6
        have Sa_0 := Lib.hid (hs.below hb hB)
        have Sb_0 := Lib.hid (hs2.below hb hB2)
        have So_0 := Lib.hid (hso.below hb hBo)
        have HB_0 := Lib.hid hb
        clear hb q3 q6 hs hs2 hso
        go_enter Try.func29, Try.ntmps29
        obtain ⟨x30, x31, x32, x33, x34, x35, xf30, xf31, xf32, xf33, xf34, xf35, x3lt⟩ := K3_0.out
        obtain ⟨x60, x61, x62, x63, x64, x65, xf60, xf61, xf62, xf63, xf64, xf65, x6lt⟩ := K6_0.out
        go_wp2_with fail
        refine (implSMV_any r c A cap _ B zs r2 c2 A2 cap2 _ B2 ks W0 Sa_0.out (by omega) rfl hn Sb_0.out (by omega) rfl hn2 true ⟨fun _ => HO.out, fun _ => rfl⟩).mono ?_
        rintro e W1 ⟨rfl, hb⟩
        clear x30 x31 x32 x33 x34 x35 xf30 xf31 xf32 xf33 xf34 xf35 x3lt x60 x61 x62 x63 x64 x65 xf60 xf61 xf62 xf63 xf64 xf65 x6lt
        have s1 := hb.size
        have K3_1 := Lib.hid (K3_0.out.below hb (show w.heap.size < W0.heap.size by omega))
        have K6_1 := Lib.hid (K6_0.out.below hb (show w.heap.size + 1 < W0.heap.size by omega))
        have Sa_1 := Lib.hid (Sa_0.out.below hb (show B ≤ W0.heap.size by omega))
        have Sb_1 := Lib.hid (Sb_0.out.below hb (show B2 ≤ W0.heap.size by omega))
        have So_1 := Lib.hid (So_0.out.below hb (show Bo ≤ W0.heap.size by omega))
        have HB_1 := Lib.hid (HB_0.out.trans (hb.mono (show w.heap.size ≤ W0.heap.size by omega)))
        clear K3_0 K6_0 Sa_0 Sb_0 So_0 HB_0 hb hW
        obtain ⟨x30, x31, x32, x33, x34, x35, xf30, xf31, xf32, xf33, xf34, xf35, x3lt⟩ := K3_1.out
        obtain ⟨x60, x61, x62, x63, x64, x65, xf60, xf61, xf62, xf63, xf64, xf65, x6lt⟩ := K6_1.out
        go_wp2_with fail
        refine (implOV_any Ao co os W1 (So_1.out.more (show Bo ≤ W1.heap.size by omega)) (by omega) true ⟨fun _ => HV.out, fun _ => rfl⟩).mono ?_
        rintro e W2 ⟨rfl, hb⟩
        clear x30 x31 x32 x33 x34 x35 xf30 xf31 xf32 xf33 xf34 xf35 x3lt x60 x61 x62 x63 x64 x65 xf60 xf61 xf62 xf63 xf64 xf65 x6lt
        have s2 := hb.size
        have K3_2 := Lib.hid (K3_1.out.below hb (show w.heap.size < W1.heap.size by omega))
        have K6_2 := Lib.hid (K6_1.out.below hb (show w.heap.size + 1 < W1.heap.size by omega))
        have Sa_2 := Lib.hid (Sa_1.out.below hb (show B ≤ W1.heap.size by omega))
        have Sb_2 := Lib.hid (Sb_1.out.below hb (show B2 ≤ W1.heap.size by omega))
        have So_2 := Lib.hid (So_1.out.below hb (show Bo ≤ W1.heap.size by omega))
        have HB_2 := Lib.hid (HB_1.out.trans (hb.mono (show w.heap.size ≤ W1.heap.size by omega)))
        clear K3_1 K6_1 Sa_1 Sb_1 So_1 HB_1 hb
        obtain ⟨x30, x31, x32, x33, x34, x35, xf30, xf31, xf32, xf33, xf34, xf35, x3lt⟩ := K3_2.out
        obtain ⟨x60, x61, x62, x63, x64, x65, xf60, xf61, xf62, xf63, xf64, xf65, x6lt⟩ := K6_2.out
        go_wp2_with fail
        refine (seedValid_no sd _ hsd).mono ?_
        rintro e w' ⟨rfl, rfl⟩
        have K3_3 := Lib.hid ((((((K3_2.out.far (a := ⟨w.heap.size + 1, 0, none⟩) (show w.heap.size ≠ w.heap.size + 1 by omega) (.int .i64 0)).far (a := ⟨w.heap.size + 1, 1, none⟩) (show w.heap.size ≠ w.heap.size + 1 by omega) (.int .i64 0)).far (a := ⟨w.heap.size + 1, 2, none⟩) (show w.heap.size ≠ w.heap.size + 1 by omega) (.slice none 0 0)).far (a := ⟨w.heap.size + 1, 3, none⟩) (show w.heap.size ≠ w.heap.size + 1 by omega) (.int .i64 0)).far (a := ⟨w.heap.size + 1, 4, none⟩) (show w.heap.size ≠ w.heap.size + 1 by omega) (.int .i64 0)).far (a := ⟨w.heap.size + 1, 5, none⟩) (show w.heap.size ≠ w.heap.size + 1 by omega) (.slice none 0 0))
        have K6_3 := Lib.hid ((((((K6_2.out.set0 (.int .i64 0)).set1 (.int .i64 0)).set2 (.slice none 0 0)).set3 (.int .i64 0)).set4 (.int .i64 0)).set5 (.slice none 0 0))
        have Sa_3 := Lib.hid ((((((Sa_2.out.keep (w' := (W2.setCell ⟨w.heap.size + 1, 0, none⟩ (.int .i64 0))) (fun p hp => World.cell?_setCell_other _ _ _ _ (fun e => by rw [← e] at hp; exact absurd (show w.heap.size + 1 < B from hp) (by omega)))).keep (w' := ((W2.setCell ⟨w.heap.size + 1, 0, none⟩ (.int .i64 0)).setCell ⟨w.heap.size + 1, 1, none⟩ (.int .i64 0))) (fun p hp => World.cell?_setCell_other _ _ _ _ (fun e => by rw [← e] at hp; exact absurd (show w.heap.size + 1 < B from hp) (by omega)))).keep (w' := (((W2.setCell ⟨w.heap.size + 1, 0, none⟩ (.int .i64 0)).setCell ⟨w.heap.size + 1, 1, none⟩ (.int .i64 0)).setCell ⟨w.heap.size + 1, 2, none⟩ (.slice none 0 0))) (fun p hp => World.cell?_setCell_other _ _ _ _ (fun e => by rw [← e] at hp; exact absurd (show w.heap.size + 1 < B from hp) (by omega)))).keep (w' := ((((W2.setCell ⟨w.heap.size + 1, 0, none⟩ (.int .i64 0)).setCell ⟨w.heap.size + 1, 1, none⟩ (.int .i64 0)).setCell ⟨w.heap.size + 1, 2, none⟩ (.slice none 0 0)).setCell ⟨w.heap.size + 1, 3, none⟩ (.int .i64 0))) (fun p hp => World.cell?_setCell_other _ _ _ _ (fun e => by rw [← e] at hp; exact absurd (show w.heap.size + 1 < B from hp) (by omega)))).keep (w' := (((((W2.setCell ⟨w.heap.size + 1, 0, none⟩ (.int .i64 0)).setCell ⟨w.heap.size + 1, 1, none⟩ (.int .i64 0)).setCell ⟨w.heap.size + 1, 2, none⟩ (.slice none 0 0)).setCell ⟨w.heap.size + 1, 3, none⟩ (.int .i64 0)).setCell ⟨w.heap.size + 1, 4, none⟩ (.int .i64 0))) (fun p hp => World.cell?_setCell_other _ _ _ _ (fun e => by rw [← e] at hp; exact absurd (show w.heap.size + 1 < B from hp) (by omega)))).keep (w' := ((((((W2.setCell ⟨w.heap.size + 1, 0, none⟩ (.int .i64 0)).setCell ⟨w.heap.size + 1, 1, none⟩ (.int .i64 0)).setCell ⟨w.heap.size + 1, 2, none⟩ (.slice none 0 0)).setCell ⟨w.heap.size + 1, 3, none⟩ (.int .i64 0)).setCell ⟨w.heap.size + 1, 4, none⟩ (.int .i64 0)).setCell ⟨w.heap.size + 1, 5, none⟩ (.slice none 0 0))) (fun p hp => World.cell?_setCell_other _ _ _ _ (fun e => by rw [← e] at hp; exact absurd (show w.heap.size + 1 < B from hp) (by omega))))
        have Sb_3 := Lib.hid ((((((Sb_2.out.keep (w' := (W2.setCell ⟨w.heap.size + 1, 0, none⟩ (.int .i64 0))) (fun p hp => World.cell?_setCell_other _ _ _ _ (fun e => by rw [← e] at hp; exact absurd (show w.heap.size + 1 < B2 from hp) (by omega)))).keep (w' := ((W2.setCell ⟨w.heap.size + 1, 0, none⟩ (.int .i64 0)).setCell ⟨w.heap.size + 1, 1, none⟩ (.int .i64 0))) (fun p hp => World.cell?_setCell_other _ _ _ _ (fun e => by rw [← e] at hp; exact absurd (show w.heap.size + 1 < B2 from hp) (by omega)))).keep (w' := (((W2.setCell ⟨w.heap.size + 1, 0, none⟩ (.int .i64 0)).setCell ⟨w.heap.size + 1, 1, none⟩ (.int .i64 0)).setCell ⟨w.heap.size + 1, 2, none⟩ (.slice none 0 0))) (fun p hp => World.cell?_setCell_other _ _ _ _ (fun e => by rw [← e] at hp; exact absurd (show w.heap.size + 1 < B2 from hp) (by omega)))).keep (w' := ((((W2.setCell ⟨w.heap.size + 1, 0, none⟩ (.int .i64 0)).setCell ⟨w.heap.size + 1, 1, none⟩ (.int .i64 0)).setCell ⟨w.heap.size + 1, 2, none⟩ (.slice none 0 0)).setCell ⟨w.heap.size + 1, 3, none⟩ (.int .i64 0))) (fun p hp => World.cell?_setCell_other _ _ _ _ (fun e => by rw [← e] at hp; exact absurd (show w.heap.size + 1 < B2 from hp) (by omega)))).keep (w' := (((((W2.setCell ⟨w.heap.size + 1, 0, none⟩ (.int .i64 0)).setCell ⟨w.heap.size + 1, 1, none⟩ (.int .i64 0)).setCell ⟨w.heap.size + 1, 2, none⟩ (.slice none 0 0)).setCell ⟨w.heap.size + 1, 3, none⟩ (.int .i64 0)).setCell ⟨w.heap.size + 1, 4, none⟩ (.int .i64 0))) (fun p hp => World.cell?_setCell_other _ _ _ _ (fun e => by rw [← e] at hp; exact absurd (show w.heap.size + 1 < B2 from hp) (by omega)))).keep (w' := ((((((W2.setCell ⟨w.heap.size + 1, 0, none⟩ (.int .i64 0)).setCell ⟨w.heap.size + 1, 1, none⟩ (.int .i64 0)).setCell ⟨w.heap.size + 1, 2, none⟩ (.slice none 0 0)).setCell ⟨w.heap.size + 1, 3, none⟩ (.int .i64 0)).setCell ⟨w.heap.size + 1, 4, none⟩ (.int .i64 0)).setCell ⟨w.heap.size + 1, 5, none⟩ (.slice none 0 0))) (fun p hp => World.cell?_setCell_other _ _ _ _ (fun e => by rw [← e] at hp; exact absurd (show w.heap.size + 1 < B2 from hp) (by omega))))
        have So_3 := Lib.hid ((((((So_2.out.keep (w' := (W2.setCell ⟨w.heap.size + 1, 0, none⟩ (.int .i64 0))) (fun p hp => World.cell?_setCell_other _ _ _ _ (fun e => by rw [← e] at hp; exact absurd (show w.heap.size + 1 < Bo from hp) (by omega)))).keep (w' := ((W2.setCell ⟨w.heap.size + 1, 0, none⟩ (.int .i64 0)).setCell ⟨w.heap.size + 1, 1, none⟩ (.int .i64 0))) (fun p hp => World.cell?_setCell_other _ _ _ _ (fun e => by rw [← e] at hp; exact absurd (show w.heap.size + 1 < Bo from hp) (by omega)))).keep (w' := (((W2.setCell ⟨w.heap.size + 1, 0, none⟩ (.int .i64 0)).setCell ⟨w.heap.size + 1, 1, none⟩ (.int .i64 0)).setCell ⟨w.heap.size + 1, 2, none⟩ (.slice none 0 0))) (fun p hp => World.cell?_setCell_other _ _ _ _ (fun e => by rw [← e] at hp; exact absurd (show w.heap.size + 1 < Bo from hp) (by omega)))).keep (w' := ((((W2.setCell ⟨w.heap.size + 1, 0, none⟩ (.int .i64 0)).setCell ⟨w.heap.size + 1, 1, none⟩ (.int .i64 0)).setCell ⟨w.heap.size + 1, 2, none⟩ (.slice none 0 0)).setCell ⟨w.heap.size + 1, 3, none⟩ (.int .i64 0))) (fun p hp => World.cell?_setCell_other _ _ _ _ (fun e => by rw [← e] at hp; exact absurd (show w.heap.size + 1 < Bo from hp) (by omega)))).keep (w' := (((((W2.setCell ⟨w.heap.size + 1, 0, none⟩ (.int .i64 0)).setCell ⟨w.heap.size + 1, 1, none⟩ (.int .i64 0)).setCell ⟨w.heap.size + 1, 2, none⟩ (.slice none 0 0)).setCell ⟨w.heap.size + 1, 3, none⟩ (.int .i64 0)).setCell ⟨w.heap.size + 1, 4, none⟩ (.int .i64 0))) (fun p hp => World.cell?_setCell_other _ _ _ _ (fun e => by rw [← e] at hp; exact absurd (show w.heap.size + 1 < Bo from hp) (by omega)))).keep (w' := ((((((W2.setCell ⟨w.heap.size + 1, 0, none⟩ (.int .i64 0)).setCell ⟨w.heap.size + 1, 1, none⟩ (.int .i64 0)).setCell ⟨w.heap.size + 1, 2, none⟩ (.slice none 0 0)).setCell ⟨w.heap.size + 1, 3, none⟩ (.int .i64 0)).setCell ⟨w.heap.size + 1, 4, none⟩ (.int .i64 0)).setCell ⟨w.heap.size + 1, 5, none⟩ (.slice none 0 0))) (fun p hp => World.cell?_setCell_other _ _ _ _ (fun e => by rw [← e] at hp; exact absurd (show w.heap.size + 1 < Bo from hp) (by omega))))
        have HB_3 := Lib.hid ((((((HB_2.out.setCell (p := ⟨w.heap.size + 1, 0, none⟩) (show w.heap.size ≤ w.heap.size + 1 by omega) (.int .i64 0)).setCell (p := ⟨w.heap.size + 1, 1, none⟩) (show w.heap.size ≤ w.heap.size + 1 by omega) (.int .i64 0)).setCell (p := ⟨w.heap.size + 1, 2, none⟩) (show w.heap.size ≤ w.heap.size + 1 by omega) (.slice none 0 0)).setCell (p := ⟨w.heap.size + 1, 3, none⟩) (show w.heap.size ≤ w.heap.size + 1 by omega) (.int .i64 0)).setCell (p := ⟨w.heap.size + 1, 4, none⟩) (show w.heap.size ≤ w.heap.size + 1 by omega) (.int .i64 0)).setCell (p := ⟨w.heap.size + 1, 5, none⟩) (show w.heap.size ≤ w.heap.size + 1 by omega) (.slice none 0 0))
        have z3 : ((((((W2.setCell ⟨w.heap.size + 1, 0, none⟩ (.int .i64 0)).setCell ⟨w.heap.size + 1, 1, none⟩ (.int .i64 0)).setCell ⟨w.heap.size + 1, 2, none⟩ (.slice none 0 0)).setCell ⟨w.heap.size + 1, 3, none⟩ (.int .i64 0)).setCell ⟨w.heap.size + 1, 4, none⟩ (.int .i64 0)).setCell ⟨w.heap.size + 1, 5, none⟩ (.slice none 0 0)).heap.size = W2.heap.size := by simp
        go_wp2_with fail
        obtain ⟨W3, hW3⟩ : ∃ W, ((((((W2.setCell ⟨w.heap.size + 1, 0, none⟩ (.int .i64 0)).setCell ⟨w.heap.size + 1, 1, none⟩ (.int .i64 0)).setCell ⟨w.heap.size + 1, 2, none⟩ (.slice none 0 0)).setCell ⟨w.heap.size + 1, 3, none⟩ (.int .i64 0)).setCell ⟨w.heap.size + 1, 4, none⟩ (.int .i64 0)).setCell ⟨w.heap.size + 1, 5, none⟩ (.slice none 0 0)) = W := ⟨_, rfl⟩
        rw [hW3] at K3_3 K6_3 Sa_3 Sb_3 So_3 HB_3 z3 ⊢
        replace z3 := And.intro (Nat.le_of_eq z3) (Nat.le_of_eq z3.symm)
        clear x30 x31 x32 x33 x34 x35 xf30 xf31 xf32 xf33 xf34 xf35 x3lt x60 x61 x62 x63 x64 x65 xf60 xf61 xf62 xf63 xf64 xf65 x6lt
        clear hW3 K3_2 K6_2 Sa_2 Sb_2 So_2 HB_2
        obtain ⟨z0', z1', z2', z3', z4', z5', _, _, _, _, _, _, _⟩ := K6_3.out
        refine bodyPost_ret (v := .tuple #[smV 0 0 (.slice none 0 0) 0 0 (.slice none 0 0), .int .i64 0]) (by simp [results, Try.results29, go_sem, z0', z1', z2', z3', z4', z5']) rfl ?_
        exact ⟨rfl, HB_3.out⟩
      · have hbq2 : ((os.length : Int) != r) = true := by simpa using hl
        clear h ho hv hl
        have q3 := (Cell6.new (w) (.int .i64 r) (.int .i64 c) (.slice A zs.length cap) (.int .i64 r2) (.int .i64 c2) (.slice A2 ks.length cap2) 47).alloc (.cells #[.int .i64 0, .int .i64 0, .slice none 0 0, .int .i64 0, .int .i64 0, .slice none 0 0] 47)
        have q6 := Cell6.new (w.alloc (.cells #[.int .i64 r, .int .i64 c, .slice A zs.length cap, .int .i64 r2, .int .i64 c2, .slice A2 ks.length cap2] 47)) (.int .i64 0) (.int .i64 0) (.slice none 0 0) (.int .i64 0) (.int .i64 0) (.slice none 0 0) 47
        have hb : Below w.heap.size w ((w.alloc (.cells #[.int .i64 r, .int .i64 c, .slice A zs.length cap, .int .i64 r2, .int .i64 c2, .slice A2 ks.length cap2] 47)).alloc (.cells #[.int .i64 0, .int .i64 0, .slice none 0 0, .int .i64 0, .int .i64 0, .slice none 0 0] 47)) := ((Below.refl _ _).alloc (Nat.le_refl _) _).alloc (by simp) _
        have hsz : ((w.alloc (.cells #[.int .i64 r, .int .i64 c, .slice A zs.length cap, .int .i64 r2, .int .i64 c2, .slice A2 ks.length cap2] 47)).alloc (.cells #[.int .i64 0, .int .i64 0, .slice none 0 0, .int .i64 0, .int .i64 0, .slice none 0 0] 47)).heap.size = w.heap.size + 2 := by simp
        simp only [World.size_alloc] at q6
        obtain ⟨W0, hW⟩ : ∃ W, (w.alloc (.cells #[.int .i64 r, .int .i64 c, .slice A zs.length cap, .int .i64 r2, .int .i64 c2, .slice A2 ks.length cap2] 47)).alloc (.cells #[.int .i64 0, .int .i64 0, .slice none 0 0, .int .i64 0, .int .i64 0, .slice none 0 0] 47) = W := ⟨_, rfl⟩
        rw [hW] at q3 q6 hb hsz
        replace hsz := And.intro (Nat.le_of_eq hsz) (Nat.le_of_eq hsz.symm)
        have K3_0 := Lib.hid q3
        have K6_0 := Lib.hid q6
        have Sa_0 := Lib.hid (hs.below hb hB)
        have Sb_0 := Lib.hid (hs2.below hb hB2)
        have So_0 := Lib.hid (hso.below hb hBo)
        have HB_0 := Lib.hid hb
        clear hb q3 q6 hs hs2 hso
        go_enter Try.func29, Try.ntmps29
        obtain ⟨x30, x31, x32, x33, x34, x35, xf30, xf31, xf32, xf33, xf34, xf35, x3lt⟩ := K3_0.out
        obtain ⟨x60, x61, x62, x63, x64, x65, xf60, xf61, xf62, xf63, xf64, xf65, x6lt⟩ := K6_0.out
        go_wp2_with fail
        refine (implSMV_any r c A cap _ B zs r2 c2 A2 cap2 _ B2 ks W0 Sa_0.out (by omega) rfl hn Sb_0.out (by omega) rfl hn2 true ⟨fun _ => HO.out, fun _ => rfl⟩).mono ?_
        rintro e W1 ⟨rfl, hb⟩
        clear x30 x31 x32 x33 x34 x35 xf30 xf31 xf32 xf33 xf34 xf35 x3lt x60 x61 x62 x63 x64 x65 xf60 xf61 xf62 xf63 xf64 xf65 x6lt
        have s1 := hb.size
        have K3_1 := Lib.hid (K3_0.out.below hb (show w.heap.size < W0.heap.size by omega))
        have K6_1 := Lib.hid (K6_0.out.below hb (show w.heap.size + 1 < W0.heap.size by omega))
        have Sa_1 := Lib.hid (Sa_0.out.below hb (show B ≤ W0.heap.size by omega))
        have Sb_1 := Lib.hid (Sb_0.out.below hb (show B2 ≤ W0.heap.size by omega))
        have So_1 := Lib.hid (So_0.out.below hb (show Bo ≤ W0.heap.size by omega))
        have HB_1 := Lib.hid (HB_0.out.trans (hb.mono (show w.heap.size ≤ W0.heap.size by omega)))
        clear K3_0 K6_0 Sa_0 Sb_0 So_0 HB_0 hb hW
        obtain ⟨x30, x31, x32, x33, x34, x35, xf30, xf31, xf32, xf33, xf34, xf35, x3lt⟩ := K3_1.out
        obtain ⟨x60, x61, x62, x63, x64, x65, xf60, xf61, xf62, xf63, xf64, xf65, x6lt⟩ := K6_1.out
        go_wp2_with fail
        refine (implOV_any Ao co os W1 (So_1.out.more (show Bo ≤ W1.heap.size by omega)) (by omega) true ⟨fun _ => HV.out, fun _ => rfl⟩).mono ?_
        rintro e W2 ⟨rfl, hb⟩
        clear x30 x31 x32 x33 x34 x35 xf30 xf31 xf32 xf33 xf34 xf35 x3lt x60 x61 x62 x63 x64 x65 xf60 xf61 xf62 xf63 xf64 xf65 x6lt
        have s2 := hb.size
        have K3_2 := Lib.hid (K3_1.out.below hb (show w.heap.size < W1.heap.size by omega))
        have K6_2 := Lib.hid (K6_1.out.below hb (show w.heap.size + 1 < W1.heap.size by omega))
        have Sa_2 := Lib.hid (Sa_1.out.below hb (show B ≤ W1.heap.size by omega))
        have Sb_2 := Lib.hid (Sb_1.out.below hb (show B2 ≤ W1.heap.size by omega))
        have So_2 := Lib.hid (So_1.out.below hb (show Bo ≤ W1.heap.size by omega))
        have HB_2 := Lib.hid (HB_1.out.trans (hb.mono (show w.heap.size ≤ W1.heap.size by omega)))
        clear K3_1 K6_1 Sa_1 Sb_1 So_1 HB_1 hb
        have K3_3 := Lib.hid ((((((K3_2.out.far (a := ⟨w.heap.size + 1, 0, none⟩) (show w.heap.size ≠ w.heap.size + 1 by omega) (.int .i64 0)).far (a := ⟨w.heap.size + 1, 1, none⟩) (show w.heap.size ≠ w.heap.size + 1 by omega) (.int .i64 0)).far (a := ⟨w.heap.size + 1, 2, none⟩) (show w.heap.size ≠ w.heap.size + 1 by omega) (.slice none 0 0)).far (a := ⟨w.heap.size + 1, 3, none⟩) (show w.heap.size ≠ w.heap.size + 1 by omega) (.int .i64 0)).far (a := ⟨w.heap.size + 1, 4, none⟩) (show w.heap.size ≠ w.heap.size + 1 by omega) (.int .i64 0)).far (a := ⟨w.heap.size + 1, 5, none⟩) (show w.heap.size ≠ w.heap.size + 1 by omega) (.slice none 0 0))
        have K6_3 := Lib.hid ((((((K6_2.out.set0 (.int .i64 0)).set1 (.int .i64 0)).set2 (.slice none 0 0)).set3 (.int .i64 0)).set4 (.int .i64 0)).set5 (.slice none 0 0))
        have Sa_3 := Lib.hid ((((((Sa_2.out.keep (w' := (W2.setCell ⟨w.heap.size + 1, 0, none⟩ (.int .i64 0))) (fun p hp => World.cell?_setCell_other _ _ _ _ (fun e => by rw [← e] at hp; exact absurd (show w.heap.size + 1 < B from hp) (by omega)))).keep (w' := ((W2.setCell ⟨w.heap.size + 1, 0, none⟩ (.int .i64 0)).setCell ⟨w.heap.size + 1, 1, none⟩ (.int .i64 0))) (fun p hp => World.cell?_setCell_other _ _ _ _ (fun e => by rw [← e] at hp; exact absurd (show w.heap.size + 1 < B from hp) (by omega)))).keep (w' := (((W2.setCell ⟨w.heap.size + 1, 0, none⟩ (.int .i64 0)).setCell ⟨w.heap.size + 1, 1, none⟩ (.int .i64 0)).setCell ⟨w.heap.size + 1, 2, none⟩ (.slice none 0 0))) (fun p hp => World.cell?_setCell_other _ _ _ _ (fun e => by rw [← e] at hp; exact absurd (show w.heap.size + 1 < B from hp) (by omega)))).keep (w' := ((((W2.setCell ⟨w.heap.size + 1, 0, none⟩ (.int .i64 0)).setCell ⟨w.heap.size + 1, 1, none⟩ (.int .i64 0)).setCell ⟨w.heap.size + 1, 2, none⟩ (.slice none 0 0)).setCell ⟨w.heap.size + 1, 3, none⟩ (.int .i64 0))) (fun p hp => World.cell?_setCell_other _ _ _ _ (fun e => by rw [← e] at hp; exact absurd (show w.heap.size + 1 < B from hp) (by omega)))).keep (w' := (((((W2.setCell ⟨w.heap.size + 1, 0, none⟩ (.int .i64 0)).setCell ⟨w.heap.size + 1, 1, none⟩ (.int .i64 0)).setCell ⟨w.heap.size + 1, 2, none⟩ (.slice none 0 0)).setCell ⟨w.heap.size + 1, 3, none⟩ (.int .i64 0)).setCell ⟨w.heap.size + 1, 4, none⟩ (.int .i64 0))) (fun p hp => World.cell?_setCell_other _ _ _ _ (fun e => by rw [← e] at hp; exact absurd (show w.heap.size + 1 < B from hp) (by omega)))).keep (w' := ((((((W2.setCell ⟨w.heap.size + 1, 0, none⟩ (.int .i64 0)).setCell ⟨w.heap.size + 1, 1, none⟩ (.int .i64 0)).setCell ⟨w.heap.size + 1, 2, none⟩ (.slice none 0 0)).setCell ⟨w.heap.size + 1, 3, none⟩ (.int .i64 0)).setCell ⟨w.heap.size + 1, 4, none⟩ (.int .i64 0)).setCell ⟨w.heap.size + 1, 5, none⟩ (.slice none 0 0))) (fun p hp => World.cell?_setCell_other _ _ _ _ (fun e => by rw [← e] at hp; exact absurd (show w.heap.size + 1 < B from hp) (by omega))))
        have Sb_3 := Lib.hid ((((((Sb_2.out.keep (w' := (W2.setCell ⟨w.heap.size + 1, 0, none⟩ (.int .i64 0))) (fun p hp => World.cell?_setCell_other _ _ _ _ (fun e => by rw [← e] at hp; exact absurd (show w.heap.size + 1 < B2 from hp) (by omega)))).keep (w' := ((W2.setCell ⟨w.heap.size + 1, 0, none⟩ (.int .i64 0)).setCell ⟨w.heap.size + 1, 1, none⟩ (.int .i64 0))) (fun p hp => World.cell?_setCell_other _ _ _ _ (fun e => by rw [← e] at hp; exact absurd (show w.heap.size + 1 < B2 from hp) (by omega)))).keep (w' := (((W2.setCell ⟨w.heap.size + 1, 0, none⟩ (.int .i64 0)).setCell ⟨w.heap.size + 1, 1, none⟩ (.int .i64 0)).setCell ⟨w.heap.size + 1, 2, none⟩ (.slice none 0 0))) (fun p hp => World.cell?_setCell_other _ _ _ _ (fun e => by rw [← e] at hp; exact absurd (show w.heap.size + 1 < B2 from hp) (by omega)))).keep (w' := ((((W2.setCell ⟨w.heap.size + 1, 0, none⟩ (.int .i64 0)).setCell ⟨w.heap.size + 1, 1, none⟩ (.int .i64 0)).setCell ⟨w.heap.size + 1, 2, none⟩ (.slice none 0 0)).setCell ⟨w.heap.size + 1, 3, none⟩ (.int .i64 0))) (fun p hp => World.cell?_setCell_other _ _ _ _ (fun e => by rw [← e] at hp; exact absurd (show w.heap.size + 1 < B2 from hp) (by omega)))).keep (w' := (((((W2.setCell ⟨w.heap.size + 1, 0, none⟩ (.int .i64 0)).setCell ⟨w.heap.size + 1, 1, none⟩ (.int .i64 0)).setCell ⟨w.heap.size + 1, 2, none⟩ (.slice none 0 0)).setCell ⟨w.heap.size + 1, 3, none⟩ (.int .i64 0)).setCell ⟨w.heap.size + 1, 4, none⟩ (.int .i64 0))) (fun p hp => World.cell?_setCell_other _ _ _ _ (fun e => by rw [← e] at hp; exact absurd (show w.heap.size + 1 < B2 from hp) (by omega)))).keep (w' := ((((((W2.setCell ⟨w.heap.size + 1, 0, none⟩ (.int .i64 0)).setCell ⟨w.heap.size + 1, 1, none⟩ (.int .i64 0)).setCell ⟨w.heap.size + 1, 2, none⟩ (.slice none 0 0)).setCell ⟨w.heap.size + 1, 3, none⟩ (.int .i64 0)).setCell ⟨w.heap.size + 1, 4, none⟩ (.int .i64 0)).setCell ⟨w.heap.size + 1, 5, none⟩ (.slice none 0 0))) (fun p hp => World.cell?_setCell_other _ _ _ _ (fun e => by rw [← e] at hp; exact absurd (show w.heap.size + 1 < B2 from hp) (by omega))))
        have So_3 := Lib.hid ((((((So_2.out.keep (w' := (W2.setCell ⟨w.heap.size + 1, 0, none⟩ (.int .i64 0))) (fun p hp => World.cell?_setCell_other _ _ _ _ (fun e => by rw [← e] at hp; exact absurd (show w.heap.size + 1 < Bo from hp) (by omega)))).keep (w' := ((W2.setCell ⟨w.heap.size + 1, 0, none⟩ (.int .i64 0)).setCell ⟨w.heap.size + 1, 1, none⟩ (.int .i64 0))) (fun p hp => World.cell?_setCell_other _ _ _ _ (fun e => by rw [← e] at hp; exact absurd (show w.heap.size + 1 < Bo from hp) (by omega)))).keep (w' := (((W2.setCell ⟨w.heap.size + 1, 0, none⟩ (.int .i64 0)).setCell ⟨w.heap.size + 1, 1, none⟩ (.int .i64 0)).setCell ⟨w.heap.size + 1, 2, none⟩ (.slice none 0 0))) (fun p hp => World.cell?_setCell_other _ _ _ _ (fun e => by rw [← e] at hp; exact absurd (show w.heap.size + 1 < Bo from hp) (by omega)))).keep (w' := ((((W2.setCell ⟨w.heap.size + 1, 0, none⟩ (.int .i64 0)).setCell ⟨w.heap.size + 1, 1, none⟩ (.int .i64 0)).setCell ⟨w.heap.size + 1, 2, none⟩ (.slice none 0 0)).setCell ⟨w.heap.size + 1, 3, none⟩ (.int .i64 0))) (fun p hp => World.cell?_setCell_other _ _ _ _ (fun e => by rw [← e] at hp; exact absurd (show w.heap.size + 1 < Bo from hp) (by omega)))).keep (w' := (((((W2.setCell ⟨w.heap.size + 1, 0, none⟩ (.int .i64 0)).setCell ⟨w.heap.size + 1, 1, none⟩ (.int .i64 0)).setCell ⟨w.heap.size + 1, 2, none⟩ (.slice none 0 0)).setCell ⟨w.heap.size + 1, 3, none⟩ (.int .i64 0)).setCell ⟨w.heap.size + 1, 4, none⟩ (.int .i64 0))) (fun p hp => World.cell?_setCell_other _ _ _ _ (fun e => by rw [← e] at hp; exact absurd (show w.heap.size + 1 < Bo from hp) (by omega)))).keep (w' := ((((((W2.setCell ⟨w.heap.size + 1, 0, none⟩ (.int .i64 0)).setCell ⟨w.heap.size + 1, 1, none⟩ (.int .i64 0)).setCell ⟨w.heap.size + 1, 2, none⟩ (.slice none 0 0)).setCell ⟨w.heap.size + 1, 3, none⟩ (.int .i64 0)).setCell ⟨w.heap.size + 1, 4, none⟩ (.int .i64 0)).setCell ⟨w.heap.size + 1, 5, none⟩ (.slice none 0 0))) (fun p hp => World.cell?_setCell_other _ _ _ _ (fun e => by rw [← e] at hp; exact absurd (show w.heap.size + 1 < Bo from hp) (by omega))))
        have HB_3 := Lib.hid ((((((HB_2.out.setCell (p := ⟨w.heap.size + 1, 0, none⟩) (show w.heap.size ≤ w.heap.size + 1 by omega) (.int .i64 0)).setCell (p := ⟨w.heap.size + 1, 1, none⟩) (show w.heap.size ≤ w.heap.size + 1 by omega) (.int .i64 0)).setCell (p := ⟨w.heap.size + 1, 2, none⟩) (show w.heap.size ≤ w.heap.size + 1 by omega) (.slice none 0 0)).setCell (p := ⟨w.heap.size + 1, 3, none⟩) (show w.heap.size ≤ w.heap.size + 1 by omega) (.int .i64 0)).setCell (p := ⟨w.heap.size + 1, 4, none⟩) (show w.heap.size ≤ w.heap.size + 1 by omega) (.int .i64 0)).setCell (p := ⟨w.heap.size + 1, 5, none⟩) (show w.heap.size ≤ w.heap.size + 1 by omega) (.slice none 0 0))
        have z3 : ((((((W2.setCell ⟨w.heap.size + 1, 0, none⟩ (.int .i64 0)).setCell ⟨w.heap.size + 1, 1, none⟩ (.int .i64 0)).setCell ⟨w.heap.size + 1, 2, none⟩ (.slice none 0 0)).setCell ⟨w.heap.size + 1, 3, none⟩ (.int .i64 0)).setCell ⟨w.heap.size + 1, 4, none⟩ (.int .i64 0)).setCell ⟨w.heap.size + 1, 5, none⟩ (.slice none 0 0)).heap.size = W2.heap.size := by simp
        obtain ⟨x30, x31, x32, x33, x34, x35, xf30, xf31, xf32, xf33, xf34, xf35, x3lt⟩ := K3_2.out
        obtain ⟨x60, x61, x62, x63, x64, x65, xf60, xf61, xf62, xf63, xf64, xf65, x6lt⟩ := K6_2.out
        go_wp2_with fail
        obtain ⟨W3, hW3⟩ : ∃ W, ((((((W2.setCell ⟨w.heap.size + 1, 0, none⟩ (.int .i64 0)).setCell ⟨w.heap.size + 1, 1, none⟩ (.int .i64 0)).setCell ⟨w.heap.size + 1, 2, none⟩ (.slice none 0 0)).setCell ⟨w.heap.size + 1, 3, none⟩ (.int .i64 0)).setCell ⟨w.heap.size + 1, 4, none⟩ (.int .i64 0)).setCell ⟨w.heap.size + 1, 5, none⟩ (.slice none 0 0)) = W := ⟨_, rfl⟩
        rw [hW3] at K3_3 K6_3 Sa_3 Sb_3 So_3 HB_3 z3 ⊢
        replace z3 := And.intro (Nat.le_of_eq z3) (Nat.le_of_eq z3.symm)
        clear x30 x31 x32 x33 x34 x35 xf30 xf31 xf32 xf33 xf34 xf35 x3lt x60 x61 x62 x63 x64 x65 xf60 xf61 xf62 xf63 xf64 xf65 x6lt
        clear hW3 K3_2 K6_2 Sa_2 Sb_2 So_2 HB_2
        obtain ⟨z0', z1', z2', z3', z4', z5', _, _, _, _, _, _, _⟩ := K6_3.out
        refine bodyPost_ret (v := .tuple #[smV 0 0 (.slice none 0 0) 0 0 (.slice none 0 0), .int .i64 0]) (by simp [results, Try.results29, go_sem, z0', z1', z2', z3', z4', z5']) rfl ?_
        exact ⟨rfl, HB_3.out⟩
    · have HV := Lib.hid hv
      clear h ho hv
      have q3 := (Cell6.new (w) (.int .i64 r) (.int .i64 c) (.slice A zs.length cap) (.int .i64 r2) (.int .i64 c2) (.slice A2 ks.length cap2) 47).alloc (.cells #[.int .i64 0, .int .i64 0, .slice none 0 0, .int .i64 0, .int .i64 0, .slice none 0 0] 47)
      have q6 := Cell6.new (w.alloc (.cells #[.int .i64 r, .int .i64 c, .slice A zs.length cap, .int .i64 r2, .int .i64 c2, .slice A2 ks.length cap2] 47)) (.int .i64 0) (.int .i64 0) (.slice none 0 0) (.int .i64 0) (.int .i64 0) (.slice none 0 0) 47
      have hb : Below w.heap.size w ((w.alloc (.cells #[.int .i64 r, .int .i64 c, .slice A zs.length cap, .int .i64 r2, .int .i64 c2, .slice A2 ks.length cap2] 47)).alloc (.cells #[.int .i64 0, .int .i64 0, .slice none 0 0, .int .i64 0, .int .i64 0, .slice none 0 0] 47)) := ((Below.refl _ _).alloc (Nat.le_refl _) _).alloc (by simp) _
      have hsz : ((w.alloc (.cells #[.int .i64 r, .int .i64 c, .slice A zs.length cap, .int .i64 r2, .int .i64 c2, .slice A2 ks.length cap2] 47)).alloc (.cells #[.int .i64 0, .int .i64 0, .slice none 0 0, .int .i64 0, .int .i64 0, .slice none 0 0] 47)).heap.size = w.heap.size + 2 := by simp
      simp only [World.size_alloc] at q6
      obtain ⟨W0, hW⟩ : ∃ W, (w.alloc (.cells #[.int .i64 r, .int .i64 c, .slice A zs.length cap, .int .i64 r2, .int .i64 c2, .slice A2 ks.length cap2] 47)).alloc (.cells #[.int .i64 0, .int .i64 0, .slice none 0 0, .int .i64 0, .int .i64 0, .slice none 0 0] 47) = W := ⟨_, rfl⟩
      rw [hW] at q3 q6 hb hsz
      replace hsz := And.intro (Nat.le_of_eq hsz) (Nat.le_of_eq hsz.symm)
      have K3_0 := Lib.hid q3
      have K6_0 := Lib.hid q6
      have Sa_0 := Lib.hid (hs.below hb hB)
      have Sb_0 := Lib.hid (hs2.below hb hB2)
      have So_0 := Lib.hid (hso.below hb hBo)
      have HB_0 := Lib.hid hb
      clear hb q3 q6 hs hs2 hso
      go_enter Try.func29, Try.ntmps29
      obtain ⟨x30, x31, x32, x33, x34, x35, xf30, xf31, xf32, xf33, xf34, xf35, x3lt⟩ := K3_0.out
      obtain ⟨x60, x61, x62, x63, x64, x65, xf60, xf61, xf62, xf63, xf64, xf65, x6lt⟩ := K6_0.out
      go_wp2_with fail
      refine (implSMV_any r c A cap _ B zs r2 c2 A2 cap2 _ B2 ks W0 Sa_0.out (by omega) rfl hn Sb_0.out (by omega) rfl hn2 true ⟨fun _ => HO.out, fun _ => rfl⟩).mono ?_
      rintro e W1 ⟨rfl, hb⟩
      clear x30 x31 x32 x33 x34 x35 xf30 xf31 xf32 xf33 xf34 xf35 x3lt x60 x61 x62 x63 x64 x65 xf60 xf61 xf62 xf63 xf64 xf65 x6lt
      have s1 := hb.size
      have K3_1 := Lib.hid (K3_0.out.below hb (show w.heap.size < W0.heap.size by omega))
      have K6_1 := Lib.hid (K6_0.out.below hb (show w.heap.size + 1 < W0.heap.size by omega))
      have Sa_1 := Lib.hid (Sa_0.out.below hb (show B ≤ W0.heap.size by omega))
      have Sb_1 := Lib.hid (Sb_0.out.below hb (show B2 ≤ W0.heap.size by omega))
      have So_1 := Lib.hid (So_0.out.below hb (show Bo ≤ W0.heap.size by omega))
      have HB_1 := Lib.hid (HB_0.out.trans (hb.mono (show w.heap.size ≤ W0.heap.size by omega)))
      clear K3_0 K6_0 Sa_0 Sb_0 So_0 HB_0 hb hW
      obtain ⟨x30, x31, x32, x33, x34, x35, xf30, xf31, xf32, xf33, xf34, xf35, x3lt⟩ := K3_1.out
      obtain ⟨x60, x61, x62, x63, x64, x65, xf60, xf61, xf62, xf63, xf64, xf65, x6lt⟩ := K6_1.out
      go_wp2_with fail
      refine (implOV_any Ao co os W1 (So_1.out.more (show Bo ≤ W1.heap.size by omega)) (by omega) false ⟨fun e => (by simp at e), fun e => absurd e HV.out⟩).mono ?_
      rintro e W2 ⟨rfl, hb⟩
      clear x30 x31 x32 x33 x34 x35 xf30 xf31 xf32 xf33 xf34 xf35 x3lt x60 x61 x62 x63 x64 x65 xf60 xf61 xf62 xf63 xf64 xf65 x6lt
      have s2 := hb.size
      have K3_2 := Lib.hid (K3_1.out.below hb (show w.heap.size < W1.heap.size by omega))
      have K6_2 := Lib.hid (K6_1.out.below hb (show w.heap.size + 1 < W1.heap.size by omega))
      have Sa_2 := Lib.hid (Sa_1.out.below hb (show B ≤ W1.heap.size by omega))
      have Sb_2 := Lib.hid (Sb_1.out.below hb (show B2 ≤ W1.heap.size by omega))
      have So_2 := Lib.hid (So_1.out.below hb (show Bo ≤ W1.heap.size by omega))
      have HB_2 := Lib.hid (HB_1.out.trans (hb.mono (show w.heap.size ≤ W1.heap.size by omega)))
      clear K3_1 K6_1 Sa_1 Sb_1 So_1 HB_1 hb
      have K3_3 := Lib.hid ((((((K3_2.out.far (a := ⟨w.heap.size + 1, 0, none⟩) (show w.heap.size ≠ w.heap.size + 1 by omega) (.int .i64 0)).far (a := ⟨w.heap.size + 1, 1, none⟩) (show w.heap.size ≠ w.heap.size + 1 by omega) (.int .i64 0)).far (a := ⟨w.heap.size + 1, 2, none⟩) (show w.heap.size ≠ w.heap.size + 1 by omega) (.slice none 0 0)).far (a := ⟨w.heap.size + 1, 3, none⟩) (show w.heap.size ≠ w.heap.size + 1 by omega) (.int .i64 0)).far (a := ⟨w.heap.size + 1, 4, none⟩) (show w.heap.size ≠ w.heap.size + 1 by omega) (.int .i64 0)).far (a := ⟨w.heap.size + 1, 5, none⟩) (show w.heap.size ≠ w.heap.size + 1 by omega) (.slice none 0 0))
      have K6_3 := Lib.hid ((((((K6_2.out.set0 (.int .i64 0)).set1 (.int .i64 0)).set2 (.slice none 0 0)).set3 (.int .i64 0)).set4 (.int .i64 0)).set5 (.slice none 0 0))
      have Sa_3 := Lib.hid ((((((Sa_2.out.keep (w' := (W2.setCell ⟨w.heap.size + 1, 0, none⟩ (.int .i64 0))) (fun p hp => World.cell?_setCell_other _ _ _ _ (fun e => by rw [← e] at hp; exact absurd (show w.heap.size + 1 < B from hp) (by omega)))).keep (w' := ((W2.setCell ⟨w.heap.size + 1, 0, none⟩ (.int .i64 0)).setCell ⟨w.heap.size + 1, 1, none⟩ (.int .i64 0))) (fun p hp => World.cell?_setCell_other _ _ _ _ (fun e => by rw [← e] at hp; exact absurd (show w.heap.size + 1 < B from hp) (by omega)))).keep (w' := (((W2.setCell ⟨w.heap.size + 1, 0, none⟩ (.int .i64 0)).setCell ⟨w.heap.size + 1, 1, none⟩ (.int .i64 0)).setCell ⟨w.heap.size + 1, 2, none⟩ (.slice none 0 0))) (fun p hp => World.cell?_setCell_other _ _ _ _ (fun e => by rw [← e] at hp; exact absurd (show w.heap.size + 1 < B from hp) (by omega)))).keep (w' := ((((W2.setCell ⟨w.heap.size + 1, 0, none⟩ (.int .i64 0)).setCell ⟨w.heap.size + 1, 1, none⟩ (.int .i64 0)).setCell ⟨w.heap.size + 1, 2, none⟩ (.slice none 0 0)).setCell ⟨w.heap.size + 1, 3, none⟩ (.int .i64 0))) (fun p hp => World.cell?_setCell_other _ _ _ _ (fun e => by rw [← e] at hp; exact absurd (show w.heap.size + 1 < B from hp) (by omega)))).keep (w' := (((((W2.setCell ⟨w.heap.size + 1, 0, none⟩ (.int .i64 0)).setCell ⟨w.heap.size + 1, 1, none⟩ (.int .i64 0)).setCell ⟨w.heap.size + 1, 2, none⟩ (.slice none 0 0)).setCell ⟨w.heap.size + 1, 3, none⟩ (.int .i64 0)).setCell ⟨w.heap.size + 1, 4, none⟩ (.int .i64 0))) (fun p hp => World.cell?_setCell_other _ _ _ _ (fun e => by rw [← e] at hp; exact absurd (show w.heap.size + 1 < B from hp) (by omega)))).keep (w' := ((((((W2.setCell ⟨w.heap.size + 1, 0, none⟩ (.int .i64 0)).setCell ⟨w.heap.size + 1, 1, none⟩ (.int .i64 0)).setCell ⟨w.heap.size + 1, 2, none⟩ (.slice none 0 0)).setCell ⟨w.heap.size + 1, 3, none⟩ (.int .i64 0)).setCell ⟨w.heap.size + 1, 4, none⟩ (.int .i64 0)).setCell ⟨w.heap.size + 1, 5, none⟩ (.slice none 0 0))) (fun p hp => World.cell?_setCell_other _ _ _ _ (fun e => by rw [← e] at hp; exact absurd (show w.heap.size + 1 < B from hp) (by omega))))
      have Sb_3 := Lib.hid ((((((Sb_2.out.keep (w' := (W2.setCell ⟨w.heap.size + 1, 0, none⟩ (.int .i64 0))) (fun p hp => World.cell?_setCell_other _ _ _ _ (fun e => by rw [← e] at hp; exact absurd (show w.heap.size + 1 < B2 from hp) (by omega)))).keep (w' := ((W2.setCell ⟨w.heap.size + 1, 0, none⟩ (.int .i64 0)).setCell ⟨w.heap.size + 1, 1, none⟩ (.int .i64 0))) (fun p hp => World.cell?_setCell_other _ _ _ _ (fun e => by rw [← e] at hp; exact absurd (show w.heap.size + 1 < B2 from hp) (by omega)))).keep (w' := (((W2.setCell ⟨w.heap.size + 1, 0, none⟩ (.int .i64 0)).setCell ⟨w.heap.size + 1, 1, none⟩ (.int .i64 0)).setCell ⟨w.heap.size + 1, 2, none⟩ (.slice none 0 0))) (fun p hp => World.cell?_setCell_other _ _ _ _ (fun e => by rw [← e] at hp; exact absurd (show w.heap.size + 1 < B2 from hp) (by omega)))).keep (w' := ((((W2.setCell ⟨w.heap.size + 1, 0, none⟩ (.int .i64 0)).setCell ⟨w.heap.size + 1, 1, none⟩ (.int .i64 0)).setCell ⟨w.heap.size + 1, 2, none⟩ (.slice none 0 0)).setCell ⟨w.heap.size + 1, 3, none⟩ (.int .i64 0))) (fun p hp => World.cell?_setCell_other _ _ _ _ (fun e => by rw [← e] at hp; exact absurd (show w.heap.size + 1 < B2 from hp) (by omega)))).keep (w' := (((((W2.setCell ⟨w.heap.size + 1, 0, none⟩ (.int .i64 0)).setCell ⟨w.heap.size + 1, 1, none⟩ (.int .i64 0)).setCell ⟨w.heap.size + 1, 2, none⟩ (.slice none 0 0)).setCell ⟨w.heap.size + 1, 3, none⟩ (.int .i64 0)).setCell ⟨w.heap.size + 1, 4, none⟩ (.int .i64 0))) (fun p hp => World.cell?_setCell_other _ _ _ _ (fun e => by rw [← e] at hp; exact absurd (show w.heap.size + 1 < B2 from hp) (by omega)))).keep (w' := ((((((W2.setCell ⟨w.heap.size + 1, 0, none⟩ (.int .i64 0)).setCell ⟨w.heap.size + 1, 1, none⟩ (.int .i64 0)).setCell ⟨w.heap.size + 1, 2, none⟩ (.slice none 0 0)).setCell ⟨w.heap.size + 1, 3, none⟩ (.int .i64 0)).setCell ⟨w.heap.size + 1, 4, none⟩ (.int .i64 0)).setCell ⟨w.heap.size + 1, 5, none⟩ (.slice none 0 0))) (fun p hp => World.cell?_setCell_other _ _ _ _ (fun e => by rw [← e] at hp; exact absurd (show w.heap.size + 1 < B2 from hp) (by omega))))
      have So_3 := Lib.hid ((((((So_2.out.keep (w' := (W2.setCell ⟨w.heap.size + 1, 0, none⟩ (.int .i64 0))) (fun p hp => World.cell?_setCell_other _ _ _ _ (fun e => by rw [← e] at hp; exact absurd (show w.heap.size + 1 < Bo from hp) (by omega)))).keep (w' := ((W2.setCell ⟨w.heap.size + 1, 0, none⟩ (.int .i64 0)).setCell ⟨w.heap.size + 1, 1, none⟩ (.int .i64 0))) (fun p hp => World.cell?_setCell_other _ _ _ _ (fun e => by rw [← e] at hp; exact absurd (show w.heap.size + 1 < Bo from hp) (by omega)))).keep (w' := (((W2.setCell ⟨w.heap.size + 1, 0, none⟩ (.int .i64 0)).setCell ⟨w.heap.size + 1, 1, none⟩ (.int .i64 0)).setCell ⟨w.heap.size + 1, 2, none⟩ (.slice none 0 0))) (fun p hp => World.cell?_setCell_other _ _ _ _ (fun e => by rw [← e] at hp; exact absurd (show w.heap.size + 1 < Bo from hp) (by omega)))).keep (w' := ((((W2.setCell ⟨w.heap.size + 1, 0, none⟩ (.int .i64 0)).setCell ⟨w.heap.size + 1, 1, none⟩ (.int .i64 0)).setCell ⟨w.heap.size + 1, 2, none⟩ (.slice none 0 0)).setCell ⟨w.heap.size + 1, 3, none⟩ (.int .i64 0))) (fun p hp => World.cell?_setCell_other _ _ _ _ (fun e => by rw [← e] at hp; exact absurd (show w.heap.size + 1 < Bo from hp) (by omega)))).keep (w' := (((((W2.setCell ⟨w.heap.size + 1, 0, none⟩ (.int .i64 0)).setCell ⟨w.heap.size + 1, 1, none⟩ (.int .i64 0)).setCell ⟨w.heap.size + 1, 2, none⟩ (.slice none 0 0)).setCell ⟨w.heap.size + 1, 3, none⟩ (.int .i64 0)).setCell ⟨w.heap.size + 1, 4, none⟩ (.int .i64 0))) (fun p hp => World.cell?_setCell_other _ _ _ _ (fun e => by rw [← e] at hp; exact absurd (show w.heap.size + 1 < Bo from hp) (by omega)))).keep (w' := ((((((W2.setCell ⟨w.heap.size + 1, 0, none⟩ (.int .i64 0)).setCell ⟨w.heap.size + 1, 1, none⟩ (.int .i64 0)).setCell ⟨w.heap.size + 1, 2, none⟩ (.slice none 0 0)).setCell ⟨w.heap.size + 1, 3, none⟩ (.int .i64 0)).setCell ⟨w.heap.size + 1, 4, none⟩ (.int .i64 0)).setCell ⟨w.heap.size + 1, 5, none⟩ (.slice none 0 0))) (fun p hp => World.cell?_setCell_other _ _ _ _ (fun e => by rw [← e] at hp; exact absurd (show w.heap.size + 1 < Bo from hp) (by omega))))
      have HB_3 := Lib.hid ((((((HB_2.out.setCell (p := ⟨w.heap.size + 1, 0, none⟩) (show w.heap.size ≤ w.heap.size + 1 by omega) (.int .i64 0)).setCell (p := ⟨w.heap.size + 1, 1, none⟩) (show w.heap.size ≤ w.heap.size + 1 by omega) (.int .i64 0)).setCell (p := ⟨w.heap.size + 1, 2, none⟩) (show w.heap.size ≤ w.heap.size + 1 by omega) (.slice none 0 0)).setCell (p := ⟨w.heap.size + 1, 3, none⟩) (show w.heap.size ≤ w.heap.size + 1 by omega) (.int .i64 0)).setCell (p := ⟨w.heap.size + 1, 4, none⟩) (show w.heap.size ≤ w.heap.size + 1 by omega) (.int .i64 0)).setCell (p := ⟨w.heap.size + 1, 5, none⟩) (show w.heap.size ≤ w.heap.size + 1 by omega) (.slice none 0 0))
      have z3 : ((((((W2.setCell ⟨w.heap.size + 1, 0, none⟩ (.int .i64 0)).setCell ⟨w.heap.size + 1, 1, none⟩ (.int .i64 0)).setCell ⟨w.heap.size + 1, 2, none⟩ (.slice none 0 0)).setCell ⟨w.heap.size + 1, 3, none⟩ (.int .i64 0)).setCell ⟨w.heap.size + 1, 4, none⟩ (.int .i64 0)).setCell ⟨w.heap.size + 1, 5, none⟩ (.slice none 0 0)).heap.size = W2.heap.size := by simp
      obtain ⟨x30, x31, x32, x33, x34, x35, xf30, xf31, xf32, xf33, xf34, xf35, x3lt⟩ := K3_2.out
      obtain ⟨x60, x61, x62, x63, x64, x65, xf60, xf61, xf62, xf63, xf64, xf65, x6lt⟩ := K6_2.out
      go_wp2_with fail
      obtain ⟨W3, hW3⟩ : ∃ W, ((((((W2.setCell ⟨w.heap.size + 1, 0, none⟩ (.int .i64 0)).setCell ⟨w.heap.size + 1, 1, none⟩ (.int .i64 0)).setCell ⟨w.heap.size + 1, 2, none⟩ (.slice none 0 0)).setCell ⟨w.heap.size + 1, 3, none⟩ (.int .i64 0)).setCell ⟨w.heap.size + 1, 4, none⟩ (.int .i64 0)).setCell ⟨w.heap.size + 1, 5, none⟩ (.slice none 0 0)) = W := ⟨_, rfl⟩
      rw [hW3] at K3_3 K6_3 Sa_3 Sb_3 So_3 HB_3 z3 ⊢
      replace z3 := And.intro (Nat.le_of_eq z3) (Nat.le_of_eq z3.symm)
      clear x30 x31 x32 x33 x34 x35 xf30 xf31 xf32 xf33 xf34 xf35 x3lt x60 x61 x62 x63 x64 x65 xf60 xf61 xf62 xf63 xf64 xf65 x6lt
      clear hW3 K3_2 K6_2 Sa_2 Sb_2 So_2 HB_2
      obtain ⟨z0', z1', z2', z3', z4', z5', _, _, _, _, _, _, _⟩ := K6_3.out
      refine bodyPost_ret (v := .tuple #[smV 0 0 (.slice none 0 0) 0 0 (.slice none 0 0), .int .i64 0]) (by simp [results, Try.results29, go_sem, z0', z1', z2', z3', z4', z5']) rfl ?_
      exact ⟨rfl, HB_3.out⟩
  · have HO := Lib.hid ho
    clear h ho
    have q3 := (Cell6.new (w) (.int .i64 r) (.int .i64 c) (.slice A zs.length cap) (.int .i64 r2) (.int .i64 c2) (.slice A2 ks.length cap2) 47).alloc (.cells #[.int .i64 0, .int .i64 0, .slice none 0 0, .int .i64 0, .int .i64 0, .slice none 0 0] 47)
    have q6 := Cell6.new (w.alloc (.cells #[.int .i64 r, .int .i64 c, .slice A zs.length cap, .int .i64 r2, .int .i64 c2, .slice A2 ks.length cap2] 47)) (.int .i64 0) (.int .i64 0) (.slice none 0 0) (.int .i64 0) (.int .i64 0) (.slice none 0 0) 47
    have hb : Below w.heap.size w ((w.alloc (.cells #[.int .i64 r, .int .i64 c, .slice A zs.length cap, .int .i64 r2, .int .i64 c2, .slice A2 ks.length cap2] 47)).alloc (.cells #[.int .i64 0, .int .i64 0, .slice none 0 0, .int .i64 0, .int .i64 0, .slice none 0 0] 47)) := ((Below.refl _ _).alloc (Nat.le_refl _) _).alloc (by simp) _
    have hsz : ((w.alloc (.cells #[.int .i64 r, .int .i64 c, .slice A zs.length cap, .int .i64 r2, .int .i64 c2, .slice A2 ks.length cap2] 47)).alloc (.cells #[.int .i64 0, .int .i64 0, .slice none 0 0, .int .i64 0, .int .i64 0, .slice none 0 0] 47)).heap.size = w.heap.size + 2 := by simp
    simp only [World.size_alloc] at q6
    obtain ⟨W0, hW⟩ : ∃ W, (w.alloc (.cells #[.int .i64 r, .int .i64 c, .slice A zs.length cap, .int .i64 r2, .int .i64 c2, .slice A2 ks.length cap2] 47)).alloc (.cells #[.int .i64 0, .int .i64 0, .slice none 0 0, .int .i64 0, .int .i64 0, .slice none 0 0] 47) = W := ⟨_, rfl⟩
    rw [hW] at q3 q6 hb hsz
    replace hsz := And.intro (Nat.le_of_eq hsz) (Nat.le_of_eq hsz.symm)
    have K3_0 := Lib.hid q3
    have K6_0 := Lib.hid q6
    have Sa_0 := Lib.hid (hs.below hb hB)
    have Sb_0 := Lib.hid (hs2.below hb hB2)
    have So_0 := Lib.hid (hso.below hb hBo)
    have HB_0 := Lib.hid hb
    clear hb q3 q6 hs hs2 hso
    go_enter Try.func29, Try.ntmps29
    obtain ⟨x30, x31, x32, x33, x34, x35, xf30, xf31, xf32, xf33, xf34, xf35, x3lt⟩ := K3_0.out
    obtain ⟨x60, x61, x62, x63, x64, x65, xf60, xf61, xf62, xf63, xf64, xf65, x6lt⟩ := K6_0.out
    go_wp2_with fail
    refine (implSMV_any r c A cap _ B zs r2 c2 A2 cap2 _ B2 ks W0 Sa_0.out (by omega) rfl hn Sb_0.out (by omega) rfl hn2 false ⟨fun e => (by simp at e), fun e => absurd e HO.out⟩).mono ?_
    rintro e W1 ⟨rfl, hb⟩
    clear x30 x31 x32 x33 x34 x35 xf30 xf31 xf32 xf33 xf34 xf35 x3lt x60 x61 x62 x63 x64 x65 xf60 xf61 xf62 xf63 xf64 xf65 x6lt
    have s1 := hb.size
    have K3_1 := Lib.hid (K3_0.out.below hb (show w.heap.size < W0.heap.size by omega))
    have K6_1 := Lib.hid (K6_0.out.below hb (show w.heap.size + 1 < W0.heap.size by omega))
    have Sa_1 := Lib.hid (Sa_0.out.below hb (show B ≤ W0.heap.size by omega))
    have Sb_1 := Lib.hid (Sb_0.out.below hb (show B2 ≤ W0.heap.size by omega))
    have So_1 := Lib.hid (So_0.out.below hb (show Bo ≤ W0.heap.size by omega))
    have HB_1 := Lib.hid (HB_0.out.trans (hb.mono (show w.heap.size ≤ W0.heap.size by omega)))
    clear K3_0 K6_0 Sa_0 Sb_0 So_0 HB_0 hb hW
    have K3_2 := Lib.hid ((((((K3_1.out.far (a := ⟨w.heap.size + 1, 0, none⟩) (show w.heap.size ≠ w.heap.size + 1 by omega) (.int .i64 0)).far (a := ⟨w.heap.size + 1, 1, none⟩) (show w.heap.size ≠ w.heap.size + 1 by omega) (.int .i64 0)).far (a := ⟨w.heap.size + 1, 2, none⟩) (show w.heap.size ≠ w.heap.size + 1 by omega) (.slice none 0 0)).far (a := ⟨w.heap.size + 1, 3, none⟩) (show w.heap.size ≠ w.heap.size + 1 by omega) (.int .i64 0)).far (a := ⟨w.heap.size + 1, 4, none⟩) (show w.heap.size ≠ w.heap.size + 1 by omega) (.int .i64 0)).far (a := ⟨w.heap.size + 1, 5, none⟩) (show w.heap.size ≠ w.heap.size + 1 by omega) (.slice none 0 0))
    have K6_2 := Lib.hid ((((((K6_1.out.set0 (.int .i64 0)).set1 (.int .i64 0)).set2 (.slice none 0 0)).set3 (.int .i64 0)).set4 (.int .i64 0)).set5 (.slice none 0 0))
    have Sa_2 := Lib.hid ((((((Sa_1.out.keep (w' := (W1.setCell ⟨w.heap.size + 1, 0, none⟩ (.int .i64 0))) (fun p hp => World.cell?_setCell_other _ _ _ _ (fun e => by rw [← e] at hp; exact absurd (show w.heap.size + 1 < B from hp) (by omega)))).keep (w' := ((W1.setCell ⟨w.heap.size + 1, 0, none⟩ (.int .i64 0)).setCell ⟨w.heap.size + 1, 1, none⟩ (.int .i64 0))) (fun p hp => World.cell?_setCell_other _ _ _ _ (fun e => by rw [← e] at hp; exact absurd (show w.heap.size + 1 < B from hp) (by omega)))).keep (w' := (((W1.setCell ⟨w.heap.size + 1, 0, none⟩ (.int .i64 0)).setCell ⟨w.heap.size + 1, 1, none⟩ (.int .i64 0)).setCell ⟨w.heap.size + 1, 2, none⟩ (.slice none 0 0))) (fun p hp => World.cell?_setCell_other _ _ _ _ (fun e => by rw [← e] at hp; exact absurd (show w.heap.size + 1 < B from hp) (by omega)))).keep (w' := ((((W1.setCell ⟨w.heap.size + 1, 0, none⟩ (.int .i64 0)).setCell ⟨w.heap.size + 1, 1, none⟩ (.int .i64 0)).setCell ⟨w.heap.size + 1, 2, none⟩ (.slice none 0 0)).setCell ⟨w.heap.size + 1, 3, none⟩ (.int .i64 0))) (fun p hp => World.cell?_setCell_other _ _ _ _ (fun e => by rw [← e] at hp; exact absurd (show w.heap.size + 1 < B from hp) (by omega)))).keep (w' := (((((W1.setCell ⟨w.heap.size + 1, 0, none⟩ (.int .i64 0)).setCell ⟨w.heap.size + 1, 1, none⟩ (.int .i64 0)).setCell ⟨w.heap.size + 1, 2, none⟩ (.slice none 0 0)).setCell ⟨w.heap.size + 1, 3, none⟩ (.int .i64 0)).setCell ⟨w.heap.size + 1, 4, none⟩ (.int .i64 0))) (fun p hp => World.cell?_setCell_other _ _ _ _ (fun e => by rw [← e] at hp; exact absurd (show w.heap.size + 1 < B from hp) (by omega)))).keep (w' := ((((((W1.setCell ⟨w.heap.size + 1, 0, none⟩ (.int .i64 0)).setCell ⟨w.heap.size + 1, 1, none⟩ (.int .i64 0)).setCell ⟨w.heap.size + 1, 2, none⟩ (.slice none 0 0)).setCell ⟨w.heap.size + 1, 3, none⟩ (.int .i64 0)).setCell ⟨w.heap.size + 1, 4, none⟩ (.int .i64 0)).setCell ⟨w.heap.size + 1, 5, none⟩ (.slice none 0 0))) (fun p hp => World.cell?_setCell_other _ _ _ _ (fun e => by rw [← e] at hp; exact absurd (show w.heap.size + 1 < B from hp) (by omega))))
    have Sb_2 := Lib.hid ((((((Sb_1.out.keep (w' := (W1.setCell ⟨w.heap.size + 1, 0, none⟩ (.int .i64 0))) (fun p hp => World.cell?_setCell_other _ _ _ _ (fun e => by rw [← e] at hp; exact absurd (show w.heap.size + 1 < B2 from hp) (by omega)))).keep (w' := ((W1.setCell ⟨w.heap.size + 1, 0, none⟩ (.int .i64 0)).setCell ⟨w.heap.size + 1, 1, none⟩ (.int .i64 0))) (fun p hp => World.cell?_setCell_other _ _ _ _ (fun e => by rw [← e] at hp; exact absurd (show w.heap.size + 1 < B2 from hp) (by omega)))).keep (w' := (((W1.setCell ⟨w.heap.size + 1, 0, none⟩ (.int .i64 0)).setCell ⟨w.heap.size + 1, 1, none⟩ (.int .i64 0)).setCell ⟨w.heap.size + 1, 2, none⟩ (.slice none 0 0))) (fun p hp => World.cell?_setCell_other _ _ _ _ (fun e => by rw [← e] at hp; exact absurd (show w.heap.size + 1 < B2 from hp) (by omega)))).keep (w' := ((((W1.setCell ⟨w.heap.size + 1, 0, none⟩ (.int .i64 0)).setCell ⟨w.heap.size + 1, 1, none⟩ (.int .i64 0)).setCell ⟨w.heap.size + 1, 2, none⟩ (.slice none 0 0)).setCell ⟨w.heap.size + 1, 3, none⟩ (.int .i64 0))) (fun p hp => World.cell?_setCell_other _ _ _ _ (fun e => by rw [← e] at hp; exact absurd (show w.heap.size + 1 < B2 from hp) (by omega)))).keep (w' := (((((W1.setCell ⟨w.heap.size + 1, 0, none⟩ (.int .i64 0)).setCell ⟨w.heap.size + 1, 1, none⟩ (.int .i64 0)).setCell ⟨w.heap.size + 1, 2, none⟩ (.slice none 0 0)).setCell ⟨w.heap.size + 1, 3, none⟩ (.int .i64 0)).setCell ⟨w.heap.size + 1, 4, none⟩ (.int .i64 0))) (fun p hp => World.cell?_setCell_other _ _ _ _ (fun e => by rw [← e] at hp; exact absurd (show w.heap.size + 1 < B2 from hp) (by omega)))).keep (w' := ((((((W1.setCell ⟨w.heap.size + 1, 0, none⟩ (.int .i64 0)).setCell ⟨w.heap.size + 1, 1, none⟩ (.int .i64 0)).setCell ⟨w.heap.size + 1, 2, none⟩ (.slice none 0 0)).setCell ⟨w.heap.size + 1, 3, none⟩ (.int .i64 0)).setCell ⟨w.heap.size + 1, 4, none⟩ (.int .i64 0)).setCell ⟨w.heap.size + 1, 5, none⟩ (.slice none 0 0))) (fun p hp => World.cell?_setCell_other _ _ _ _ (fun e => by rw [← e] at hp; exact absurd (show w.heap.size + 1 < B2 from hp) (by omega))))
    have So_2 := Lib.hid ((((((So_1.out.keep (w' := (W1.setCell ⟨w.heap.size + 1, 0, none⟩ (.int .i64 0))) (fun p hp => World.cell?_setCell_other _ _ _ _ (fun e => by rw [← e] at hp; exact absurd (show w.heap.size + 1 < Bo from hp) (by omega)))).keep (w' := ((W1.setCell ⟨w.heap.size + 1, 0, none⟩ (.int .i64 0)).setCell ⟨w.heap.size + 1, 1, none⟩ (.int .i64 0))) (fun p hp => World.cell?_setCell_other _ _ _ _ (fun e => by rw [← e] at hp; exact absurd (show w.heap.size + 1 < Bo from hp) (by omega)))).keep (w' := (((W1.setCell ⟨w.heap.size + 1, 0, none⟩ (.int .i64 0)).setCell ⟨w.heap.size + 1, 1, none⟩ (.int .i64 0)).setCell ⟨w.heap.size + 1, 2, none⟩ (.slice none 0 0))) (fun p hp => World.cell?_setCell_other _ _ _ _ (fun e => by rw [← e] at hp; exact absurd (show w.heap.size + 1 < Bo from hp) (by omega)))).keep (w' := ((((W1.setCell ⟨w.heap.size + 1, 0, none⟩ (.int .i64 0)).setCell ⟨w.heap.size + 1, 1, none⟩ (.int .i64 0)).setCell ⟨w.heap.size + 1, 2, none⟩ (.slice none 0 0)).setCell ⟨w.heap.size + 1, 3, none⟩ (.int .i64 0))) (fun p hp => World.cell?_setCell_other _ _ _ _ (fun e => by rw [← e] at hp; exact absurd (show w.heap.size + 1 < Bo from hp) (by omega)))).keep (w' := (((((W1.setCell ⟨w.heap.size + 1, 0, none⟩ (.int .i64 0)).setCell ⟨w.heap.size + 1, 1, none⟩ (.int .i64 0)).setCell ⟨w.heap.size + 1, 2, none⟩ (.slice none 0 0)).setCell ⟨w.heap.size + 1, 3, none⟩ (.int .i64 0)).setCell ⟨w.heap.size + 1, 4, none⟩ (.int .i64 0))) (fun p hp => World.cell?_setCell_other _ _ _ _ (fun e => by rw [← e] at hp; exact absurd (show w.heap.size + 1 < Bo from hp) (by omega)))).keep (w' := ((((((W1.setCell ⟨w.heap.size + 1, 0, none⟩ (.int .i64 0)).setCell ⟨w.heap.size + 1, 1, none⟩ (.int .i64 0)).setCell ⟨w.heap.size + 1, 2, none⟩ (.slice none 0 0)).setCell ⟨w.heap.size + 1, 3, none⟩ (.int .i64 0)).setCell ⟨w.heap.size + 1, 4, none⟩ (.int .i64 0)).setCell ⟨w.heap.size + 1, 5, none⟩ (.slice none 0 0))) (fun p hp => World.cell?_setCell_other _ _ _ _ (fun e => by rw [← e] at hp; exact absurd (show w.heap.size + 1 < Bo from hp) (by omega))))
    have HB_2 := Lib.hid ((((((HB_1.out.setCell (p := ⟨w.heap.size + 1, 0, none⟩) (show w.heap.size ≤ w.heap.size + 1 by omega) (.int .i64 0)).setCell (p := ⟨w.heap.size + 1, 1, none⟩) (show w.heap.size ≤ w.heap.size + 1 by omega) (.int .i64 0)).setCell (p := ⟨w.heap.size + 1, 2, none⟩) (show w.heap.size ≤ w.heap.size + 1 by omega) (.slice none 0 0)).setCell (p := ⟨w.heap.size + 1, 3, none⟩) (show w.heap.size ≤ w.heap.size + 1 by omega) (.int .i64 0)).setCell (p := ⟨w.heap.size + 1, 4, none⟩) (show w.heap.size ≤ w.heap.size + 1 by omega) (.int .i64 0)).setCell (p := ⟨w.heap.size + 1, 5, none⟩) (show w.heap.size ≤ w.heap.size + 1 by omega) (.slice none 0 0))
    have z2 : ((((((W1.setCell ⟨w.heap.size + 1, 0, none⟩ (.int .i64 0)).setCell ⟨w.heap.size + 1, 1, none⟩ (.int .i64 0)).setCell ⟨w.heap.size + 1, 2, none⟩ (.slice none 0 0)).setCell ⟨w.heap.size + 1, 3, none⟩ (.int .i64 0)).setCell ⟨w.heap.size + 1, 4, none⟩ (.int .i64 0)).setCell ⟨w.heap.size + 1, 5, none⟩ (.slice none 0 0)).heap.size = W1.heap.size := by simp
    obtain ⟨x30, x31, x32, x33, x34, x35, xf30, xf31, xf32, xf33, xf34, xf35, x3lt⟩ := K3_1.out
    obtain ⟨x60, x61, x62, x63, x64, x65, xf60, xf61, xf62, xf63, xf64, xf65, x6lt⟩ := K6_1.out
    go_wp2_with fail
    obtain ⟨W2, hW2⟩ : ∃ W, ((((((W1.setCell ⟨w.heap.size + 1, 0, none⟩ (.int .i64 0)).setCell ⟨w.heap.size + 1, 1, none⟩ (.int .i64 0)).setCell ⟨w.heap.size + 1, 2, none⟩ (.slice none 0 0)).setCell ⟨w.heap.size + 1, 3, none⟩ (.int .i64 0)).setCell ⟨w.heap.size + 1, 4, none⟩ (.int .i64 0)).setCell ⟨w.heap.size + 1, 5, none⟩ (.slice none 0 0)) = W := ⟨_, rfl⟩
    rw [hW2] at K3_2 K6_2 Sa_2 Sb_2 So_2 HB_2 z2 ⊢
    replace z2 := And.intro (Nat.le_of_eq z2) (Nat.le_of_eq z2.symm)
    clear x30 x31 x32 x33 x34 x35 xf30 xf31 xf32 xf33 xf34 xf35 x3lt x60 x61 x62 x63 x64 x65 xf60 xf61 xf62 xf63 xf64 xf65 x6lt
    clear hW2 K3_1 K6_1 Sa_1 Sb_1 So_1 HB_1
    obtain ⟨z0', z1', z2', z3', z4', z5', _, _, _, _, _, _, _⟩ := K6_2.out
    refine bodyPost_ret (v := .tuple #[smV 0 0 (.slice none 0 0) 0 0 (.slice none 0 0), .int .i64 0]) (by simp [results, Try.results29, go_sem, z0', z1', z2', z3', z4', z5']) rfl ?_
    exact ⟨rfl, HB_2.out⟩
set_option maxRecDepth 20000 in
set_option maxHeartbeats 6400000 in
theorem implOS_yes (r c : Int) (A : Option Addr) (cap n B : Nat) (zs : List Int) (r2 c2 : Int) (A2 : Option Addr) (cap2 n2 B2 : Nat) (ks : List Int) (Ao : Option Addr) (co no Bo : Nat) (os : List Int) (sd : Int) (w : World) (hs : Sl w B A zs) (hB : B ≤ w.heap.size) (e : n = zs.length) (hn : n ≤ 1100000) (hs2 : Sl w B2 A2 ks) (hB2 : B2 ≤ w.heap.size) (e2 : n2 = ks.length) (hn2 : n2 ≤ 1100000) (hso : Sl w Bo Ao os) (hBo : Bo ≤ w.heap.size) (eo : no = os.length) (hno : no ≤ 1100000) (hnc : n ≤ cap) (hcm : cap ≤ maxLen) (hnc2 : n2 ≤ cap2) (hcm2 : cap2 ≤ maxLen) (h : (OkS r c zs r2 c2 ks ∧ OkR r c zs os ∧ 1 ≤ sd ∧ sd ≤ 2147483646)) :
    Calls Try.prog 29 #[smV r c (.slice A n cap) r2 c2 (.slice A2 n2 cap2), .slice Ao no co, .int .i64 sd] w fun e w' => ∃ s s2, e = .returned (.tuple #[smV r c s r c s2, .int .i64 (rSd sd zs.length)]) ∧ RowS w' w.heap.size w'.heap.size s s2 (pairZ addF (ordZ r c zs os) (rLs sd zs.length)) (pairZ subF (ordZ r c ks os) (rLs sd zs.length)) ∧ Below w.heap.size w w' := by
  subst e
  subst e2
  subst eo
  obtain ⟨hos, hor, hs1, hs2'⟩ := h
  obtain ⟨hm1, hm2, rfl, rfl⟩ := id hos
  have hl1 := hm1.len
  have hl2 := hm2.len
  have hr15 := hm1.1
  have hc15 := hm1.2.1
  have hor2 : OkR r c ks os := ⟨hm2, hor.2⟩
  have HO := Lib.hid hos
  have HV := Lib.hid hor.2.1
  have hbq2 : ((os.length : Int) != r) = false := by have := hor.2.2; simp; omega
  have he1 := ord_yes hor
  have he2 := ord_yes hor2
  have hol1 := he1.2.2.2
  have hol2 := he2.2.2.2
  have hrm := okM_rls sd hm1
  have hrl := rLs_len sd zs.length
  have hlk : ks.length = zs.length := by have h1 := hm1.2.2.1; have h2 := hm2.2.2.1; omega
  have HPP := Lib.hid (show r * c = (zs.length : Int) from hm1.2.2.1.symm)
  obtain ⟨ps, hps⟩ : ∃ x, ordZ r c zs os = x := ⟨_, rfl⟩
  obtain ⟨qs, hqs⟩ : ∃ x, ordZ r c ks os = x := ⟨_, rfl⟩
  obtain ⟨gs, hgs⟩ : ∃ x, rLs sd zs.length = x := ⟨_, rfl⟩
  obtain ⟨q, hq⟩ : ∃ x, rSd sd zs.length = x := ⟨_, rfl⟩
  rw [hps] at he1
  rw [hqs] at he2
  rw [hgs] at hrm hrl
  rw [hps, hqs, hgs, hq]
  have hml := hrm.len
  have h1ok : OkM r c ps := he1.2.2.1
  have h2ok : OkM r c qs := he2.2.2.1
  have hpl := h1ok.len
  have hql := h2ok.len
  obtain ⟨fs, hfs⟩ : ∃ x, pairZ addF ps gs = x := ⟨_, rfl⟩
  obtain ⟨ss, hss⟩ : ∃ x, pairZ subF qs gs = x := ⟨_, rfl⟩
  rw [hfs, hss]
  have HN := Lib.hid (show (ordR r c zs os = r ∧ ordC r c zs os = c ∧ ordZ r c zs os = ps) ∧ (ordR r c ks os = r ∧ ordC r c ks os = c ∧ ordZ r c ks os = qs) ∧ rLs sd zs.length = gs ∧ rSd sd zs.length = q ∧ pairZ addF ps gs = fs ∧ pairZ subF qs gs = ss from ⟨⟨he1.1, he1.2.1, hps⟩, ⟨he2.1, he2.2.1, hqs⟩, hgs, hq, hfs, hss⟩)
  have HM := Lib.hid (And.intro h1ok (And.intro h2ok hrm))
  clear hos hor hor2 he1 he2 hol1 hol2 hm1 hm2 hps hqs hgs hq hfs hss h1ok h2ok hrm hrl hlk
  have q3 := (Cell6.new (w) (.int .i64 r) (.int .i64 c) (.slice A zs.length cap) (.int .i64 r) (.int .i64 c) (.slice A2 ks.length cap2) 47).alloc (.cells #[.int .i64 0, .int .i64 0, .slice none 0 0, .int .i64 0, .int .i64 0, .slice none 0 0] 47)
  have q6 := Cell6.new (w.alloc (.cells #[.int .i64 r, .int .i64 c, .slice A zs.length cap, .int .i64 r, .int .i64 c, .slice A2 ks.length cap2] 47)) (.int .i64 0) (.int .i64 0) (.slice none 0 0) (.int .i64 0) (.int .i64 0) (.slice none 0 0) 47
  have hb : Below w.heap.size w ((w.alloc (.cells #[.int .i64 r, .int .i64 c, .slice A zs.length cap, .int .i64 r, .int .i64 c, .slice A2 ks.length cap2] 47)).alloc (.cells #[.int .i64 0, .int .i64 0, .slice none 0 0, .int .i64 0, .int .i64 0, .slice none 0 0] 47)) := ((Below.refl _ _).alloc (Nat.le_refl _) _).alloc (by simp) _
  have hsz : ((w.alloc (.cells #[.int .i64 r, .int .i64 c, .slice A zs.length cap, .int .i64 r, .int .i64 c, .slice A2 ks.length cap2] 47)).alloc (.cells #[.int .i64 0, .int .i64 0, .slice none 0 0, .int .i64 0, .int .i64 0, .slice none 0 0] 47)).heap.size = w.heap.size + 2 := by simp
  simp only [World.size_alloc] at q6
  obtain ⟨W0, hW⟩ : ∃ W, (w.alloc (.cells #[.int .i64 r, .int .i64 c, .slice A zs.length cap, .int .i64 r, .int .i64 c, .slice A2 ks.length cap2] 47)).alloc (.cells #[.int .i64 0, .int .i64 0, .slice none 0 0, .int .i64 0, .int .i64 0, .slice none 0 0] 47) = W := ⟨_, rfl⟩
  rw [hW] at q3 q6 hb hsz
  replace hsz := And.intro (Nat.le_of_eq hsz) (Nat.le_of_eq hsz.symm)
  have K3_0 := Lib.hid q3
  have K6_0 := Lib.hid q6
  have Sa_0 := Lib.hid (hs.below hb hB)
  have Sb_0 := Lib.hid (hs2.below hb hB2)
  have So_0 := Lib.hid (hso.below hb hBo)
  have HB_0 := Lib.hid hb
  clear hb q3 q6 hs hs2 hso
  go_enter Try.func29, Try.ntmps29
  obtain ⟨x30, x31, x32, x33, x34, x35, xf30, xf31, xf32, xf33, xf34, xf35, x3lt⟩ := K3_0.out
  obtain ⟨x60, x61, x62, x63, x64, x65, xf60, xf61, xf62, xf63, xf64, xf65, x6lt⟩ := K6_0.out
  go_wp2_with fail
  refine (implSMV_any r c A cap _ B zs r c A2 cap2 _ B2 ks W0 Sa_0.out (by omega) rfl hn Sb_0.out (by omega) rfl hn2 true ⟨fun _ => HO.out, fun _ => rfl⟩).mono ?_
  rintro e W1 ⟨rfl, hb⟩
  clear x30 x31 x32 x33 x34 x35 xf30 xf31 xf32 xf33 xf34 xf35 x3lt x60 x61 x62 x63 x64 x65 xf60 xf61 xf62 xf63 xf64 xf65 x6lt
  have s1 := hb.size
  have K3_1 := Lib.hid (K3_0.out.below hb (show w.heap.size < W0.heap.size by omega))
  have K6_1 := Lib.hid (K6_0.out.below hb (show w.heap.size + 1 < W0.heap.size by omega))
  have Sa_1 := Lib.hid (Sa_0.out.below hb (show B ≤ W0.heap.size by omega))
  have Sb_1 := Lib.hid (Sb_0.out.below hb (show B2 ≤ W0.heap.size by omega))
  have So_1 := Lib.hid (So_0.out.below hb (show Bo ≤ W0.heap.size by omega))
  have HB_1 := Lib.hid (HB_0.out.trans (hb.mono (show w.heap.size ≤ W0.heap.size by omega)))
  clear K3_0 K6_0 Sa_0 Sb_0 So_0 HB_0 hb hW
  obtain ⟨x30, x31, x32, x33, x34, x35, xf30, xf31, xf32, xf33, xf34, xf35, x3lt⟩ := K3_1.out
  obtain ⟨x60, x61, x62, x63, x64, x65, xf60, xf61, xf62, xf63, xf64, xf65, x6lt⟩ := K6_1.out
  go_wp2_with fail
  refine (implOV_any Ao co os W1 (So_1.out.more (show Bo ≤ W1.heap.size by omega)) (by omega) true ⟨fun _ => HV.out, fun _ => rfl⟩).mono ?_
  rintro e W2 ⟨rfl, hb⟩
  clear x30 x31 x32 x33 x34 x35 xf30 xf31 xf32 xf33 xf34 xf35 x3lt x60 x61 x62 x63 x64 x65 xf60 xf61 xf62 xf63 xf64 xf65 x6lt
  have s2 := hb.size
  have K3_2 := Lib.hid (K3_1.out.below hb (show w.heap.size < W1.heap.size by omega))
  have K6_2 := Lib.hid (K6_1.out.below hb (show w.heap.size + 1 < W1.heap.size by omega))
  have Sa_2 := Lib.hid (Sa_1.out.below hb (show B ≤ W1.heap.size by omega))
  have Sb_2 := Lib.hid (Sb_1.out.below hb (show B2 ≤ W1.heap.size by omega))
  have So_2 := Lib.hid (So_1.out.below hb (show Bo ≤ W1.heap.size by omega))
  have HB_2 := Lib.hid (HB_1.out.trans (hb.mono (show w.heap.size ≤ W1.heap.size by omega)))
  clear K3_1 K6_1 Sa_1 Sb_1 So_1 HB_1 hb
  obtain ⟨x30, x31, x32, x33, x34, x35, xf30, xf31, xf32, xf33, xf34, xf35, x3lt⟩ := K3_2.out
  obtain ⟨x60, x61, x62, x63, x64, x65, xf60, xf61, xf62, xf63, xf64, xf65, x6lt⟩ := K6_2.out
  go_wp2_with fail
  refine (seedValid_yes sd _ hs1 hs2').mono ?_
  rintro e w' ⟨rfl, rfl⟩
  have hrmc := Lib.hid (implRM_yes r c sd zs.length W2 hr15 hc15 ⟨hs1, hs2'⟩ HPP.out (by omega))
  rw [HN.out.2.2.1, HN.out.2.2.2.1] at hrmc
  go_wp2_with fail
  refine (hrmc.out).mono ?_
  rintro e W3 ⟨sv3, rfl, hr, hb⟩
  obtain ⟨Ag, cg, rfl, hcp1, hcp2, _⟩ := hr.form
  have HCPg := Lib.hid (And.intro hcp1 hcp2)
  clear hcp1 hcp2
  clear x30 x31 x32 x33 x34 x35 xf30 xf31 xf32 xf33 xf34 xf35 x3lt x60 x61 x62 x63 x64 x65 xf60 xf61 xf62 xf63 xf64 xf65 x6lt
  have s3 := hb.size
  have K3_3 := Lib.hid (K3_2.out.below hb (show w.heap.size < W2.heap.size by omega))
  have K6_3 := Lib.hid (K6_2.out.below hb (show w.heap.size + 1 < W2.heap.size by omega))
  have Sa_3 := Lib.hid (Sa_2.out.below hb (show B ≤ W2.heap.size by omega))
  have Sb_3 := Lib.hid (Sb_2.out.below hb (show B2 ≤ W2.heap.size by omega))
  have So_3 := Lib.hid (So_2.out.below hb (show Bo ≤ W2.heap.size by omega))
  have HB_3 := Lib.hid (HB_2.out.trans (hb.mono (show w.heap.size ≤ W2.heap.size by omega)))
  clear K3_2 K6_2 Sa_2 Sb_2 So_2 HB_2 hb
  have Rg_3 := Lib.hid hr
  clear hr
  clear hrmc
  have kn := Cell3.new W3 (.int .i64 r) (.int .i64 c) (.slice Ag gs.length cg) 33
  obtain ⟨W4, hW4⟩ : ∃ W, W3.alloc (.cells #[.int .i64 r, .int .i64 c, .slice Ag gs.length cg] 33) = W := ⟨_, rfl⟩
  rw [hW4] at kn
  have z4 : W4.heap.size = W3.heap.size + 1 := by rw [← hW4]; simp
  replace z4 := And.intro (Nat.le_of_eq z4) (Nat.le_of_eq z4.symm)
  have hal : Below W3.heap.size W3 W4 := hW4 ▸ (Below.refl _ _).alloc (Nat.le_refl _) _
  have s4 := hal.size
  have K3_4 := Lib.hid (K3_3.out.below hal (show w.heap.size < W3.heap.size by omega))
  have K6_4 := Lib.hid (K6_3.out.below hal (show w.heap.size + 1 < W3.heap.size by omega))
  have Rg_4 := Lib.hid (Rg_3.out.below hal (show W3.heap.size ≤ W3.heap.size by omega))
  have Sa_4 := Lib.hid (Sa_3.out.below hal (show B ≤ W3.heap.size by omega))
  have Sb_4 := Lib.hid (Sb_3.out.below hal (show B2 ≤ W3.heap.size by omega))
  have So_4 := Lib.hid (So_3.out.below hal (show Bo ≤ W3.heap.size by omega))
  have HB_4 := Lib.hid (HB_3.out.trans (hal.mono (show w.heap.size ≤ W3.heap.size by omega)))
  clear K3_3 K6_3 Rg_3 Sa_3 Sb_3 So_3 HB_3 hal
  have K8_4 := Lib.hid kn
  clear kn
  have H1 := Lib.hid fun wx (hx : Below W4.heap.size W4 wx) => implOrd_any r c A cap _ B zs Ao co _ Bo os wx (Sa_4.out.below hx (show B ≤ W4.heap.size by omega)) (Nat.le_trans (show B ≤ W4.heap.size by omega) hx.size) rfl hn (So_4.out.below hx (show Bo ≤ W4.heap.size by omega)) (Nat.le_trans (show Bo ≤ W4.heap.size by omega) hx.size) rfl hno hnc hcm
  rw [HN.out.1.1, HN.out.1.2.1, HN.out.1.2.2] at H1
  have H2 := Lib.hid fun (Aa : Option Addr) (ca : Nat) wx (hx : Below W4.heap.size W4 wx) (hq : Sl wx wx.heap.size Aa ps) => implAdd_yes r c Aa ca _ wx.heap.size ps Ag cg _ W4.heap.size gs wx hq (Nat.le_refl _) rfl ((Rg_4.out.sl_now.more (show W3.heap.size ≤ W4.heap.size by omega)).below hx (Nat.le_refl _)) hx.size rfl HM.out.1 HM.out.2.2
  rw [HN.out.2.2.2.2.1] at H2
  have hfl : fs.length ≤ 25 := by rw [← HN.out.2.2.2.2.1, pairZ_len]; omega
  have HMK := Lib.hid fun w' (hx : Below W4.heap.size W4 w') => (show (w'.cell? ⟨w.heap.size, 0, none⟩ = some (.int .i64 r) ∧ w'.cell? ⟨w.heap.size, 1, none⟩ = some (.int .i64 c) ∧ w'.cell? ⟨w.heap.size, 2, none⟩ = some (.slice A zs.length cap)) ∧ (w'.cell? ⟨W3.heap.size, 0, none⟩ = some (.int .i64 r) ∧ w'.cell? ⟨W3.heap.size, 1, none⟩ = some (.int .i64 c) ∧ w'.cell? ⟨W3.heap.size, 2, none⟩ = some (.slice Ag gs.length cg)) from (by have h3 := K3_4.out.below hx (show w.heap.size < W4.heap.size by omega); have h8 := K8_4.out.below hx (show W3.heap.size < W4.heap.size by omega); exact ⟨⟨h3.c0, h3.c1, h3.c2⟩, ⟨h8.c0, h8.c1, h8.c2⟩⟩))
  have hcur : Below W4.heap.size W4 W4.drew := Below.of_drew _
  have hcu0 : Below W4.heap.size W4 (W4.alloc (.cells #[.int .i64 0, .int .i64 0, .slice none 0 0] 33)).drew := ((Below.refl _ _).alloc (Nat.le_refl _) _).trans (Below.of_drew _)
  have eN0 := (Cell3.new W4 (.int .i64 0) (.int .i64 0) (.slice none 0 0) 33).grown ((drewG _).grown none) (by simp)
  obtain ⟨x30, x31, x32, x33, x34, x35, xf30, xf31, xf32, xf33, xf34, xf35, x3lt⟩ := K3_4.out
  obtain ⟨x60, x61, x62, x63, x64, x65, xf60, xf61, xf62, xf63, xf64, xf65, x6lt⟩ := K6_4.out
  obtain ⟨x80, x81, x82, xf80, xf81, xf82, x8lt⟩ := K8_4.out
  go_upto_region 4 with fail
  go_cut [10] (fun sx wx => ∃ (b6 : Nat) (Af : Option Addr) (cf : Nat), sx = .pointer (some ⟨b6, 0, none⟩) ∧ W4.heap.size ≤ b6 ∧ b6 < wx.heap.size ∧ Cell3 wx b6 (.int .i64 r) (.int .i64 c) (.slice Af fs.length cf) ∧ Row wx W4.heap.size wx.heap.size (.slice Af fs.length cf) fs ∧ Below W4.heap.size W4 wx)
  case first =>
    go_region_held3 (fun w' => (w'.cell? ⟨w.heap.size, 0, none⟩ = some (.int .i64 r) ∧ w'.cell? ⟨w.heap.size, 1, none⟩ = some (.int .i64 c) ∧ w'.cell? ⟨w.heap.size, 2, none⟩ = some (.slice A zs.length cap)) ∧ (w'.cell? ⟨W3.heap.size, 0, none⟩ = some (.int .i64 r) ∧ w'.cell? ⟨W3.heap.size, 1, none⟩ = some (.int .i64 c) ∧ w'.cell? ⟨W3.heap.size, 2, none⟩ = some (.slice Ag gs.length cg)))
      (first | with_reducible exact HMK.out _ hcur | with_reducible exact HMK.out _ hcu0 | with_reducible exact HMK.out _ (hcur.alloc hcur.size _) | with_reducible exact HMK.out _ (((hcur.setCell (p := ⟨_, 0, none⟩) hb6 _).setCell (p := ⟨_, 1, none⟩) hb6 _).setCell (p := ⟨_, 2, none⟩) hb6 _) | fail)
      (first
        | (go_simp; go_at_call 18; (with_reducible refine (H1.out W4.drew hcur).mono ?_); rintro e Wn ⟨sva, rfl, hr, hb⟩; obtain ⟨Aa, ca, rfl, _, _, _⟩ := hr.form; have hcurn := hcur.trans (hb.mono hcur.size); have hsa := hr.sl_now; have hcur := hcurn; clear hr hb hcurn; obtain ⟨Wz, hWz⟩ : ∃ W, W = Wn := ⟨_, rfl⟩; subst hWz)
        | (go_simp; go_at_call 18; (with_reducible refine (H1.out (W4.alloc (.cells #[.int .i64 0, .int .i64 0, .slice none 0 0] 33)).drew hcu0).mono ?_); rintro e Wn ⟨sva, rfl, hr, hb⟩; obtain ⟨Aa, ca, rfl, _, _, _⟩ := hr.form; have hcurn := hcu0.trans (hb.mono hcu0.size); have eN := eN0.below hb eN0.lt; have hb6 := Nat.le_refl W4.heap.size; have hsa := hr.sl_now; have hcur := hcurn; clear hr hb hcurn; obtain ⟨Wz, hWz⟩ : ∃ W, W = Wn := ⟨_, rfl⟩; subst hWz)
        | (go_simp; go_at_call 60; (with_reducible refine (H2.out Aa ca Wz hcur hsa).mono ?_); rintro e Wy ⟨svy, rfl, hry, hby⟩; obtain ⟨Af, cf, rfl, _, _, _⟩ := hry.form; have hwz := hcur.size; have hcur := hcur.trans (hby.mono hcur.size); (try (have hlo := eN.lt; have eN := eN.below hby eN.lt; obtain ⟨n0, n1, n2, nf0, nf1, nf2, nlt⟩ := id eN)))
        | (go_simp; go_at_call 60; (with_reducible refine (H2.out Aa ca (Wz.alloc (.cells #[.int .i64 0, .int .i64 0, .slice none 0 0] 33)) (hcur.alloc hcur.size _) ((hsa.below ((Below.refl _ Wz).alloc (Nat.le_refl _) _) (Nat.le_refl _)).more (by simp))).mono ?_); rintro e Wy ⟨svy, rfl, hry, hby⟩; obtain ⟨Af, cf, rfl, _, _, _⟩ := hry.form; have eN := (Cell3.new Wz (.int .i64 0) (.int .i64 0) (.slice none 0 0) 33).below hby (by simp); have hb6 := hcur.size; have hlo := (show Wz.heap.size < (Wz.alloc (.cells #[.int .i64 0, .int .i64 0, .slice none 0 0] 33)).heap.size by simp); have hwz := Nat.le_trans hcur.size (Nat.le_of_lt hlo); have hcur := (hcur.alloc hcur.size (.cells #[.int .i64 0, .int .i64 0, .slice none 0 0] 33)).trans (hby.mono (hcur.alloc hcur.size (.cells #[.int .i64 0, .int .i64 0, .slice none 0 0] 33)).size); obtain ⟨n0, n1, n2, nf0, nf1, nf2, nlt⟩ := id eN)
        | fail)
    all_goals (
      go_wp2_with fail
      go_meet
      first
        | exact ⟨_, _, _, rfl, hb6, by simpa using eN.lt, ((eN.set0 _).set1 _).set2 _, (((hry.grown (set_grown _ _ 0 _) (fun g e => by cases e; left; exact hlo)).grown (set_grown _ _ 1 _) (fun g e => by cases e; left; exact hlo)).grown (set_grown _ _ 2 _) (fun g e => by cases e; left; exact hlo)).wider hwz (by simp), ((hcur.setCell (p := ⟨_, 0, none⟩) hb6 _).setCell (p := ⟨_, 1, none⟩) hb6 _).setCell (p := ⟨_, 2, none⟩) hb6 _⟩
        | exact ⟨Wy.heap.size, _, _, rfl, hcur.size, by simp, Cell3.new Wy _ _ _ _, (hry.grown (World.grownBy_alloc Wy _ none) (fun g e => by cases e)).wider hwz (by simp), hcur.alloc hcur.size _⟩)
  case rest =>
    obtain ⟨W5, rfl⟩ : ∃ W, W = wc := ⟨_, rfl⟩
    obtain ⟨b10, Af, cf, rfl, hbl10, hbl10', kn, rn, hb⟩ := hcut
    clear HMK hcur hcu0 eN0 H1 H2
    have s5 := hb.size
    have K3_5 := Lib.hid (K3_4.out.below hb (show w.heap.size < W4.heap.size by omega))
    have K6_5 := Lib.hid (K6_4.out.below hb (show w.heap.size + 1 < W4.heap.size by omega))
    have K8_5 := Lib.hid (K8_4.out.below hb (show W3.heap.size < W4.heap.size by omega))
    have Rg_5 := Lib.hid (Rg_4.out.below hb (show W3.heap.size ≤ W4.heap.size by omega))
    have Sa_5 := Lib.hid (Sa_4.out.below hb (show B ≤ W4.heap.size by omega))
    have Sb_5 := Lib.hid (Sb_4.out.below hb (show B2 ≤ W4.heap.size by omega))
    have So_5 := Lib.hid (So_4.out.below hb (show Bo ≤ W4.heap.size by omega))
    have HB_5 := Lib.hid (HB_4.out.trans (hb.mono (show w.heap.size ≤ W4.heap.size by omega)))
    clear K3_4 K6_4 K8_4 Rg_4 Sa_4 Sb_4 So_4 HB_4 hb
    have K10_5 := Lib.hid kn
    have Rf_5 := Lib.hid rn
    clear kn rn
    have H1 := Lib.hid fun wx (hx : Below W5.heap.size W5 wx) => implOrd_any r c A2 cap2 _ B2 ks Ao co _ Bo os wx (Sb_5.out.below hx (show B2 ≤ W5.heap.size by omega)) (Nat.le_trans (show B2 ≤ W5.heap.size by omega) hx.size) rfl hn2 (So_5.out.below hx (show Bo ≤ W5.heap.size by omega)) (Nat.le_trans (show Bo ≤ W5.heap.size by omega) hx.size) rfl hno hnc2 hcm2
    rw [HN.out.2.1.1, HN.out.2.1.2.1, HN.out.2.1.2.2] at H1
    have H2 := Lib.hid fun (Aa : Option Addr) (ca : Nat) wx (hx : Below W5.heap.size W5 wx) (hq : Sl wx wx.heap.size Aa qs) => implSub_yes r c Aa ca _ wx.heap.size qs Ag cg _ W5.heap.size gs wx hq (Nat.le_refl _) rfl ((Rg_5.out.sl_now.more (show W3.heap.size ≤ W5.heap.size by omega)).below hx (Nat.le_refl _)) hx.size rfl HM.out.2.1 HM.out.2.2
    rw [HN.out.2.2.2.2.2] at H2
    have HMK := Lib.hid fun w' (hx : Below W5.heap.size W5 w') => (show (w'.cell? ⟨w.heap.size, 3, none⟩ = some (.int .i64 r) ∧ w'.cell? ⟨w.heap.size, 4, none⟩ = some (.int .i64 c) ∧ w'.cell? ⟨w.heap.size, 5, none⟩ = some (.slice A2 ks.length cap2)) ∧ (w'.cell? ⟨W3.heap.size, 0, none⟩ = some (.int .i64 r) ∧ w'.cell? ⟨W3.heap.size, 1, none⟩ = some (.int .i64 c) ∧ w'.cell? ⟨W3.heap.size, 2, none⟩ = some (.slice Ag gs.length cg)) from (by have h3 := K3_5.out.below hx (show w.heap.size < W5.heap.size by omega); have h8 := K8_5.out.below hx (show W3.heap.size < W5.heap.size by omega); exact ⟨⟨h3.c3, h3.c4, h3.c5⟩, ⟨h8.c0, h8.c1, h8.c2⟩⟩))
    have hcur : Below W5.heap.size W5 W5.drew := Below.of_drew _
    have hcu0 : Below W5.heap.size W5 (W5.alloc (.cells #[.int .i64 0, .int .i64 0, .slice none 0 0] 33)).drew := ((Below.refl _ _).alloc (Nat.le_refl _) _).trans (Below.of_drew _)
    have eN0 := (Cell3.new W5 (.int .i64 0) (.int .i64 0) (.slice none 0 0) 33).grown ((drewG _).grown none) (by simp)
    obtain ⟨x30, x31, x32, x33, x34, x35, xf30, xf31, xf32, xf33, xf34, xf35, x3lt⟩ := K3_5.out
    obtain ⟨x60, x61, x62, x63, x64, x65, xf60, xf61, xf62, xf63, xf64, xf65, x6lt⟩ := K6_5.out
    obtain ⟨x80, x81, x82, xf80, xf81, xf82, x8lt⟩ := K8_5.out
    obtain ⟨x100, x101, x102, xf100, xf101, xf102, x10lt⟩ := K10_5.out
    go_upto_region 5 with fail
    go_cut [11] (fun sx wx => ∃ (b6 : Nat) (Ah : Option Addr) (ch : Nat), sx = .pointer (some ⟨b6, 0, none⟩) ∧ W5.heap.size ≤ b6 ∧ b6 < wx.heap.size ∧ Cell3 wx b6 (.int .i64 r) (.int .i64 c) (.slice Ah ss.length ch) ∧ Row wx W5.heap.size wx.heap.size (.slice Ah ss.length ch) ss ∧ Below W5.heap.size W5 wx)
    case first =>
      go_region_held3 (fun w' => (w'.cell? ⟨w.heap.size, 3, none⟩ = some (.int .i64 r) ∧ w'.cell? ⟨w.heap.size, 4, none⟩ = some (.int .i64 c) ∧ w'.cell? ⟨w.heap.size, 5, none⟩ = some (.slice A2 ks.length cap2)) ∧ (w'.cell? ⟨W3.heap.size, 0, none⟩ = some (.int .i64 r) ∧ w'.cell? ⟨W3.heap.size, 1, none⟩ = some (.int .i64 c) ∧ w'.cell? ⟨W3.heap.size, 2, none⟩ = some (.slice Ag gs.length cg)))
        (first | with_reducible exact HMK.out _ hcur | with_reducible exact HMK.out _ hcu0 | with_reducible exact HMK.out _ (hcur.alloc hcur.size _) | with_reducible exact HMK.out _ (((hcur.setCell (p := ⟨_, 0, none⟩) hb6 _).setCell (p := ⟨_, 1, none⟩) hb6 _).setCell (p := ⟨_, 2, none⟩) hb6 _) | fail)
        (first
          | (go_simp; go_at_call 18; (with_reducible refine (H1.out W5.drew hcur).mono ?_); rintro e Wn ⟨sva, rfl, hr, hb⟩; obtain ⟨Aa, ca, rfl, _, _, _⟩ := hr.form; have hcurn := hcur.trans (hb.mono hcur.size); have hsa := hr.sl_now; have hcur := hcurn; clear hr hb hcurn; obtain ⟨Wz, hWz⟩ : ∃ W, W = Wn := ⟨_, rfl⟩; subst hWz)
          | (go_simp; go_at_call 18; (with_reducible refine (H1.out (W5.alloc (.cells #[.int .i64 0, .int .i64 0, .slice none 0 0] 33)).drew hcu0).mono ?_); rintro e Wn ⟨sva, rfl, hr, hb⟩; obtain ⟨Aa, ca, rfl, _, _, _⟩ := hr.form; have hcurn := hcu0.trans (hb.mono hcu0.size); have eN := eN0.below hb eN0.lt; have hb6 := Nat.le_refl W5.heap.size; have hsa := hr.sl_now; have hcur := hcurn; clear hr hb hcurn; obtain ⟨Wz, hWz⟩ : ∃ W, W = Wn := ⟨_, rfl⟩; subst hWz)
          | (go_simp; go_at_call 61; (with_reducible refine (H2.out Aa ca Wz hcur hsa).mono ?_); rintro e Wy ⟨svy, rfl, hry, hby⟩; obtain ⟨Ah, ch, rfl, _, _, _⟩ := hry.form; have hwz := hcur.size; have hcur := hcur.trans (hby.mono hcur.size); (try (have hlo := eN.lt; have eN := eN.below hby eN.lt; obtain ⟨n0, n1, n2, nf0, nf1, nf2, nlt⟩ := id eN)))
          | (go_simp; go_at_call 61; (with_reducible refine (H2.out Aa ca (Wz.alloc (.cells #[.int .i64 0, .int .i64 0, .slice none 0 0] 33)) (hcur.alloc hcur.size _) ((hsa.below ((Below.refl _ Wz).alloc (Nat.le_refl _) _) (Nat.le_refl _)).more (by simp))).mono ?_); rintro e Wy ⟨svy, rfl, hry, hby⟩; obtain ⟨Ah, ch, rfl, _, _, _⟩ := hry.form; have eN := (Cell3.new Wz (.int .i64 0) (.int .i64 0) (.slice none 0 0) 33).below hby (by simp); have hb6 := hcur.size; have hlo := (show Wz.heap.size < (Wz.alloc (.cells #[.int .i64 0, .int .i64 0, .slice none 0 0] 33)).heap.size by simp); have hwz := Nat.le_trans hcur.size (Nat.le_of_lt hlo); have hcur := (hcur.alloc hcur.size (.cells #[.int .i64 0, .int .i64 0, .slice none 0 0] 33)).trans (hby.mono (hcur.alloc hcur.size (.cells #[.int .i64 0, .int .i64 0, .slice none 0 0] 33)).size); obtain ⟨n0, n1, n2, nf0, nf1, nf2, nlt⟩ := id eN)
          | fail)
      all_goals (
        go_wp2_with fail
        go_meet
        first
          | exact ⟨_, _, _, rfl, hb6, by simpa using eN.lt, ((eN.set0 _).set1 _).set2 _, (((hry.grown (set_grown _ _ 0 _) (fun g e => by cases e; left; exact hlo)).grown (set_grown _ _ 1 _) (fun g e => by cases e; left; exact hlo)).grown (set_grown _ _ 2 _) (fun g e => by cases e; left; exact hlo)).wider hwz (by simp), ((hcur.setCell (p := ⟨_, 0, none⟩) hb6 _).setCell (p := ⟨_, 1, none⟩) hb6 _).setCell (p := ⟨_, 2, none⟩) hb6 _⟩
          | exact ⟨Wy.heap.size, _, _, rfl, hcur.size, by simp, Cell3.new Wy _ _ _ _, (hry.grown (World.grownBy_alloc Wy _ none) (fun g e => by cases e)).wider hwz (by simp), hcur.alloc hcur.size _⟩)
    case rest =>
      obtain ⟨W6, rfl⟩ : ∃ W, W = wc := ⟨_, rfl⟩
      obtain ⟨b11, Ah, ch, rfl, hbl11, hbl11', kn, rn, hb⟩ := hcut
      clear HMK hcur hcu0 eN0 H1 H2
      have s6 := hb.size
      have K3_6 := Lib.hid (K3_5.out.below hb (show w.heap.size < W5.heap.size by omega))
      have K6_6 := Lib.hid (K6_5.out.below hb (show w.heap.size + 1 < W5.heap.size by omega))
      have K8_6 := Lib.hid (K8_5.out.below hb (show W3.heap.size < W5.heap.size by omega))
      have K10_6 := Lib.hid (K10_5.out.below hb (show b10 < W5.heap.size by omega))
      have Rg_6 := Lib.hid (Rg_5.out.below hb (show W3.heap.size ≤ W5.heap.size by omega))
      have Rf_6 := Lib.hid (Rf_5.out.below hb (show W5.heap.size ≤ W5.heap.size by omega))
      have Sa_6 := Lib.hid (Sa_5.out.below hb (show B ≤ W5.heap.size by omega))
      have Sb_6 := Lib.hid (Sb_5.out.below hb (show B2 ≤ W5.heap.size by omega))
      have So_6 := Lib.hid (So_5.out.below hb (show Bo ≤ W5.heap.size by omega))
      have HB_6 := Lib.hid (HB_5.out.trans (hb.mono (show w.heap.size ≤ W5.heap.size by omega)))
      clear K3_5 K6_5 K8_5 K10_5 Rg_5 Rf_5 Sa_5 Sb_5 So_5 HB_5 hb
      have K11_6 := Lib.hid kn
      have Rh_6 := Lib.hid rn
      clear kn rn
      have K3_7 := Lib.hid ((((((K3_6.out.far (a := ⟨w.heap.size + 1, 0, none⟩) (show w.heap.size ≠ w.heap.size + 1 by omega) (.int .i64 r)).far (a := ⟨w.heap.size + 1, 1, none⟩) (show w.heap.size ≠ w.heap.size + 1 by omega) (.int .i64 c)).far (a := ⟨w.heap.size + 1, 2, none⟩) (show w.heap.size ≠ w.heap.size + 1 by omega) (.slice Af fs.length cf)).far (a := ⟨w.heap.size + 1, 3, none⟩) (show w.heap.size ≠ w.heap.size + 1 by omega) (.int .i64 r)).far (a := ⟨w.heap.size + 1, 4, none⟩) (show w.heap.size ≠ w.heap.size + 1 by omega) (.int .i64 c)).far (a := ⟨w.heap.size + 1, 5, none⟩) (show w.heap.size ≠ w.heap.size + 1 by omega) (.slice Ah ss.length ch))
      have K6_7 := Lib.hid ((((((K6_6.out.set0 (.int .i64 r)).set1 (.int .i64 c)).set2 (.slice Af fs.length cf)).set3 (.int .i64 r)).set4 (.int .i64 c)).set5 (.slice Ah ss.length ch))
      have K8_7 := Lib.hid ((((((K8_6.out.far (a := ⟨w.heap.size + 1, 0, none⟩) (show W3.heap.size ≠ w.heap.size + 1 by omega) (.int .i64 r)).far (a := ⟨w.heap.size + 1, 1, none⟩) (show W3.heap.size ≠ w.heap.size + 1 by omega) (.int .i64 c)).far (a := ⟨w.heap.size + 1, 2, none⟩) (show W3.heap.size ≠ w.heap.size + 1 by omega) (.slice Af fs.length cf)).far (a := ⟨w.heap.size + 1, 3, none⟩) (show W3.heap.size ≠ w.heap.size + 1 by omega) (.int .i64 r)).far (a := ⟨w.heap.size + 1, 4, none⟩) (show W3.heap.size ≠ w.heap.size + 1 by omega) (.int .i64 c)).far (a := ⟨w.heap.size + 1, 5, none⟩) (show W3.heap.size ≠ w.heap.size + 1 by omega) (.slice Ah ss.length ch))
      have K10_7 := Lib.hid ((((((K10_6.out.far (a := ⟨w.heap.size + 1, 0, none⟩) (show b10 ≠ w.heap.size + 1 by omega) (.int .i64 r)).far (a := ⟨w.heap.size + 1, 1, none⟩) (show b10 ≠ w.heap.size + 1 by omega) (.int .i64 c)).far (a := ⟨w.heap.size + 1, 2, none⟩) (show b10 ≠ w.heap.size + 1 by omega) (.slice Af fs.length cf)).far (a := ⟨w.heap.size + 1, 3, none⟩) (show b10 ≠ w.heap.size + 1 by omega) (.int .i64 r)).far (a := ⟨w.heap.size + 1, 4, none⟩) (show b10 ≠ w.heap.size + 1 by omega) (.int .i64 c)).far (a := ⟨w.heap.size + 1, 5, none⟩) (show b10 ≠ w.heap.size + 1 by omega) (.slice Ah ss.length ch))
      have K11_7 := Lib.hid ((((((K11_6.out.far (a := ⟨w.heap.size + 1, 0, none⟩) (show b11 ≠ w.heap.size + 1 by omega) (.int .i64 r)).far (a := ⟨w.heap.size + 1, 1, none⟩) (show b11 ≠ w.heap.size + 1 by omega) (.int .i64 c)).far (a := ⟨w.heap.size + 1, 2, none⟩) (show b11 ≠ w.heap.size + 1 by omega) (.slice Af fs.length cf)).far (a := ⟨w.heap.size + 1, 3, none⟩) (show b11 ≠ w.heap.size + 1 by omega) (.int .i64 r)).far (a := ⟨w.heap.size + 1, 4, none⟩) (show b11 ≠ w.heap.size + 1 by omega) (.int .i64 c)).far (a := ⟨w.heap.size + 1, 5, none⟩) (show b11 ≠ w.heap.size + 1 by omega) (.slice Ah ss.length ch))
      have Rg_7 := Lib.hid ((((((Rg_6.out.grown (set_grown _ (w.heap.size + 1) 0 (.int .i64 r)) (fun g e => by cases e; omega)).grown (set_grown _ (w.heap.size + 1) 1 (.int .i64 c)) (fun g e => by cases e; omega)).grown (set_grown _ (w.heap.size + 1) 2 (.slice Af fs.length cf)) (fun g e => by cases e; omega)).grown (set_grown _ (w.heap.size + 1) 3 (.int .i64 r)) (fun g e => by cases e; omega)).grown (set_grown _ (w.heap.size + 1) 4 (.int .i64 c)) (fun g e => by cases e; omega)).grown (set_grown _ (w.heap.size + 1) 5 (.slice Ah ss.length ch)) (fun g e => by cases e; omega))
      have Rf_7 := Lib.hid ((((((Rf_6.out.grown (set_grown _ (w.heap.size + 1) 0 (.int .i64 r)) (fun g e => by cases e; omega)).grown (set_grown _ (w.heap.size + 1) 1 (.int .i64 c)) (fun g e => by cases e; omega)).grown (set_grown _ (w.heap.size + 1) 2 (.slice Af fs.length cf)) (fun g e => by cases e; omega)).grown (set_grown _ (w.heap.size + 1) 3 (.int .i64 r)) (fun g e => by cases e; omega)).grown (set_grown _ (w.heap.size + 1) 4 (.int .i64 c)) (fun g e => by cases e; omega)).grown (set_grown _ (w.heap.size + 1) 5 (.slice Ah ss.length ch)) (fun g e => by cases e; omega))
      have Rh_7 := Lib.hid ((((((Rh_6.out.grown (set_grown _ (w.heap.size + 1) 0 (.int .i64 r)) (fun g e => by cases e; omega)).grown (set_grown _ (w.heap.size + 1) 1 (.int .i64 c)) (fun g e => by cases e; omega)).grown (set_grown _ (w.heap.size + 1) 2 (.slice Af fs.length cf)) (fun g e => by cases e; omega)).grown (set_grown _ (w.heap.size + 1) 3 (.int .i64 r)) (fun g e => by cases e; omega)).grown (set_grown _ (w.heap.size + 1) 4 (.int .i64 c)) (fun g e => by cases e; omega)).grown (set_grown _ (w.heap.size + 1) 5 (.slice Ah ss.length ch)) (fun g e => by cases e; omega))
      have Sa_7 := Lib.hid ((((((Sa_6.out.keep (w' := (W6.setCell ⟨w.heap.size + 1, 0, none⟩ (.int .i64 r))) (fun p hp => World.cell?_setCell_other _ _ _ _ (fun e => by rw [← e] at hp; exact absurd (show w.heap.size + 1 < B from hp) (by omega)))).keep (w' := ((W6.setCell ⟨w.heap.size + 1, 0, none⟩ (.int .i64 r)).setCell ⟨w.heap.size + 1, 1, none⟩ (.int .i64 c))) (fun p hp => World.cell?_setCell_other _ _ _ _ (fun e => by rw [← e] at hp; exact absurd (show w.heap.size + 1 < B from hp) (by omega)))).keep (w' := (((W6.setCell ⟨w.heap.size + 1, 0, none⟩ (.int .i64 r)).setCell ⟨w.heap.size + 1, 1, none⟩ (.int .i64 c)).setCell ⟨w.heap.size + 1, 2, none⟩ (.slice Af fs.length cf))) (fun p hp => World.cell?_setCell_other _ _ _ _ (fun e => by rw [← e] at hp; exact absurd (show w.heap.size + 1 < B from hp) (by omega)))).keep (w' := ((((W6.setCell ⟨w.heap.size + 1, 0, none⟩ (.int .i64 r)).setCell ⟨w.heap.size + 1, 1, none⟩ (.int .i64 c)).setCell ⟨w.heap.size + 1, 2, none⟩ (.slice Af fs.length cf)).setCell ⟨w.heap.size + 1, 3, none⟩ (.int .i64 r))) (fun p hp => World.cell?_setCell_other _ _ _ _ (fun e => by rw [← e] at hp; exact absurd (show w.heap.size + 1 < B from hp) (by omega)))).keep (w' := (((((W6.setCell ⟨w.heap.size + 1, 0, none⟩ (.int .i64 r)).setCell ⟨w.heap.size + 1, 1, none⟩ (.int .i64 c)).setCell ⟨w.heap.size + 1, 2, none⟩ (.slice Af fs.length cf)).setCell ⟨w.heap.size + 1, 3, none⟩ (.int .i64 r)).setCell ⟨w.heap.size + 1, 4, none⟩ (.int .i64 c))) (fun p hp => World.cell?_setCell_other _ _ _ _ (fun e => by rw [← e] at hp; exact absurd (show w.heap.size + 1 < B from hp) (by omega)))).keep (w' := ((((((W6.setCell ⟨w.heap.size + 1, 0, none⟩ (.int .i64 r)).setCell ⟨w.heap.size + 1, 1, none⟩ (.int .i64 c)).setCell ⟨w.heap.size + 1, 2, none⟩ (.slice Af fs.length cf)).setCell ⟨w.heap.size + 1, 3, none⟩ (.int .i64 r)).setCell ⟨w.heap.size + 1, 4, none⟩ (.int .i64 c)).setCell ⟨w.heap.size + 1, 5, none⟩ (.slice Ah ss.length ch))) (fun p hp => World.cell?_setCell_other _ _ _ _ (fun e => by rw [← e] at hp; exact absurd (show w.heap.size + 1 < B from hp) (by omega))))
      have Sb_7 := Lib.hid ((((((Sb_6.out.keep (w' := (W6.setCell ⟨w.heap.size + 1, 0, none⟩ (.int .i64 r))) (fun p hp => World.cell?_setCell_other _ _ _ _ (fun e => by rw [← e] at hp; exact absurd (show w.heap.size + 1 < B2 from hp) (by omega)))).keep (w' := ((W6.setCell ⟨w.heap.size + 1, 0, none⟩ (.int .i64 r)).setCell ⟨w.heap.size + 1, 1, none⟩ (.int .i64 c))) (fun p hp => World.cell?_setCell_other _ _ _ _ (fun e => by rw [← e] at hp; exact absurd (show w.heap.size + 1 < B2 from hp) (by omega)))).keep (w' := (((W6.setCell ⟨w.heap.size + 1, 0, none⟩ (.int .i64 r)).setCell ⟨w.heap.size + 1, 1, none⟩ (.int .i64 c)).setCell ⟨w.heap.size + 1, 2, none⟩ (.slice Af fs.length cf))) (fun p hp => World.cell?_setCell_other _ _ _ _ (fun e => by rw [← e] at hp; exact absurd (show w.heap.size + 1 < B2 from hp) (by omega)))).keep (w' := ((((W6.setCell ⟨w.heap.size + 1, 0, none⟩ (.int .i64 r)).setCell ⟨w.heap.size + 1, 1, none⟩ (.int .i64 c)).setCell ⟨w.heap.size + 1, 2, none⟩ (.slice Af fs.length cf)).setCell ⟨w.heap.size + 1, 3, none⟩ (.int .i64 r))) (fun p hp => World.cell?_setCell_other _ _ _ _ (fun e => by rw [← e] at hp; exact absurd (show w.heap.size + 1 < B2 from hp) (by omega)))).keep (w' := (((((W6.setCell ⟨w.heap.size + 1, 0, none⟩ (.int .i64 r)).setCell ⟨w.heap.size + 1, 1, none⟩ (.int .i64 c)).setCell ⟨w.heap.size + 1, 2, none⟩ (.slice Af fs.length cf)).setCell ⟨w.heap.size + 1, 3, none⟩ (.int .i64 r)).setCell ⟨w.heap.size + 1, 4, none⟩ (.int .i64 c))) (fun p hp => World.cell?_setCell_other _ _ _ _ (fun e => by rw [← e] at hp; exact absurd (show w.heap.size + 1 < B2 from hp) (by omega)))).keep (w' := ((((((W6.setCell ⟨w.heap.size + 1, 0, none⟩ (.int .i64 r)).setCell ⟨w.heap.size + 1, 1, none⟩ (.int .i64 c)).setCell ⟨w.heap.size + 1, 2, none⟩ (.slice Af fs.length cf)).setCell ⟨w.heap.size + 1, 3, none⟩ (.int .i64 r)).setCell ⟨w.heap.size + 1, 4, none⟩ (.int .i64 c)).setCell ⟨w.heap.size + 1, 5, none⟩ (.slice Ah ss.length ch))) (fun p hp => World.cell?_setCell_other _ _ _ _ (fun e => by rw [← e] at hp; exact absurd (show w.heap.size + 1 < B2 from hp) (by omega))))
      have So_7 := Lib.hid ((((((So_6.out.keep (w' := (W6.setCell ⟨w.heap.size + 1, 0, none⟩ (.int .i64 r))) (fun p hp => World.cell?_setCell_other _ _ _ _ (fun e => by rw [← e] at hp; exact absurd (show w.heap.size + 1 < Bo from hp) (by omega)))).keep (w' := ((W6.setCell ⟨w.heap.size + 1, 0, none⟩ (.int .i64 r)).setCell ⟨w.heap.size + 1, 1, none⟩ (.int .i64 c))) (fun p hp => World.cell?_setCell_other _ _ _ _ (fun e => by rw [← e] at hp; exact absurd (show w.heap.size + 1 < Bo from hp) (by omega)))).keep (w' := (((W6.setCell ⟨w.heap.size + 1, 0, none⟩ (.int .i64 r)).setCell ⟨w.heap.size + 1, 1, none⟩ (.int .i64 c)).setCell ⟨w.heap.size + 1, 2, none⟩ (.slice Af fs.length cf))) (fun p hp => World.cell?_setCell_other _ _ _ _ (fun e => by rw [← e] at hp; exact absurd (show w.heap.size + 1 < Bo from hp) (by omega)))).keep (w' := ((((W6.setCell ⟨w.heap.size + 1, 0, none⟩ (.int .i64 r)).setCell ⟨w.heap.size + 1, 1, none⟩ (.int .i64 c)).setCell ⟨w.heap.size + 1, 2, none⟩ (.slice Af fs.length cf)).setCell ⟨w.heap.size + 1, 3, none⟩ (.int .i64 r))) (fun p hp => World.cell?_setCell_other _ _ _ _ (fun e => by rw [← e] at hp; exact absurd (show w.heap.size + 1 < Bo from hp) (by omega)))).keep (w' := (((((W6.setCell ⟨w.heap.size + 1, 0, none⟩ (.int .i64 r)).setCell ⟨w.heap.size + 1, 1, none⟩ (.int .i64 c)).setCell ⟨w.heap.size + 1, 2, none⟩ (.slice Af fs.length cf)).setCell ⟨w.heap.size + 1, 3, none⟩ (.int .i64 r)).setCell ⟨w.heap.size + 1, 4, none⟩ (.int .i64 c))) (fun p hp => World.cell?_setCell_other _ _ _ _ (fun e => by rw [← e] at hp; exact absurd (show w.heap.size + 1 < Bo from hp) (by omega)))).keep (w' := ((((((W6.setCell ⟨w.heap.size + 1, 0, none⟩ (.int .i64 r)).setCell ⟨w.heap.size + 1, 1, none⟩ (.int .i64 c)).setCell ⟨w.heap.size + 1, 2, none⟩ (.slice Af fs.length cf)).setCell ⟨w.heap.size + 1, 3, none⟩ (.int .i64 r)).setCell ⟨w.heap.size + 1, 4, none⟩ (.int .i64 c)).setCell ⟨w.heap.size + 1, 5, none⟩ (.slice Ah ss.length ch))) (fun p hp => World.cell?_setCell_other _ _ _ _ (fun e => by rw [← e] at hp; exact absurd (show w.heap.size + 1 < Bo from hp) (by omega))))
      have HB_7 := Lib.hid ((((((HB_6.out.setCell (p := ⟨w.heap.size + 1, 0, none⟩) (show w.heap.size ≤ w.heap.size + 1 by omega) (.int .i64 r)).setCell (p := ⟨w.heap.size + 1, 1, none⟩) (show w.heap.size ≤ w.heap.size + 1 by omega) (.int .i64 c)).setCell (p := ⟨w.heap.size + 1, 2, none⟩) (show w.heap.size ≤ w.heap.size + 1 by omega) (.slice Af fs.length cf)).setCell (p := ⟨w.heap.size + 1, 3, none⟩) (show w.heap.size ≤ w.heap.size + 1 by omega) (.int .i64 r)).setCell (p := ⟨w.heap.size + 1, 4, none⟩) (show w.heap.size ≤ w.heap.size + 1 by omega) (.int .i64 c)).setCell (p := ⟨w.heap.size + 1, 5, none⟩) (show w.heap.size ≤ w.heap.size + 1 by omega) (.slice Ah ss.length ch))
      have z7 : ((((((W6.setCell ⟨w.heap.size + 1, 0, none⟩ (.int .i64 r)).setCell ⟨w.heap.size + 1, 1, none⟩ (.int .i64 c)).setCell ⟨w.heap.size + 1, 2, none⟩ (.slice Af fs.length cf)).setCell ⟨w.heap.size + 1, 3, none⟩ (.int .i64 r)).setCell ⟨w.heap.size + 1, 4, none⟩ (.int .i64 c)).setCell ⟨w.heap.size + 1, 5, none⟩ (.slice Ah ss.length ch)).heap.size = W6.heap.size := by simp
      obtain ⟨x30, x31, x32, x33, x34, x35, xf30, xf31, xf32, xf33, xf34, xf35, x3lt⟩ := K3_6.out
      obtain ⟨x60, x61, x62, x63, x64, x65, xf60, xf61, xf62, xf63, xf64, xf65, x6lt⟩ := K6_6.out
      obtain ⟨x80, x81, x82, xf80, xf81, xf82, x8lt⟩ := K8_6.out
      obtain ⟨x100, x101, x102, xf100, xf101, xf102, x10lt⟩ := K10_6.out
      obtain ⟨x110, x111, x112, xf110, xf111, xf112, x11lt⟩ := K11_6.out
      go_wp2_with fail
      obtain ⟨W7, hW7⟩ : ∃ W, ((((((W6.setCell ⟨w.heap.size + 1, 0, none⟩ (.int .i64 r)).setCell ⟨w.heap.size + 1, 1, none⟩ (.int .i64 c)).setCell ⟨w.heap.size + 1, 2, none⟩ (.slice Af fs.length cf)).setCell ⟨w.heap.size + 1, 3, none⟩ (.int .i64 r)).setCell ⟨w.heap.size + 1, 4, none⟩ (.int .i64 c)).setCell ⟨w.heap.size + 1, 5, none⟩ (.slice Ah ss.length ch)) = W := ⟨_, rfl⟩
      rw [hW7] at K3_7 K6_7 K8_7 K10_7 K11_7 Rg_7 Rf_7 Rh_7 Sa_7 Sb_7 So_7 HB_7 z7 ⊢
      replace z7 := And.intro (Nat.le_of_eq z7) (Nat.le_of_eq z7.symm)
      clear x30 x31 x32 x33 x34 x35 xf30 xf31 xf32 xf33 xf34 xf35 x3lt x60 x61 x62 x63 x64 x65 xf60 xf61 xf62 xf63 xf64 xf65 x6lt x80 x81 x82 xf80 xf81 xf82 x8lt x100 x101 x102 xf100 xf101 xf102 x10lt x110 x111 x112 xf110 xf111 xf112 x11lt
      clear hW7 K3_6 K6_6 K8_6 K10_6 K11_6 Rg_6 Rf_6 Rh_6 Sa_6 Sb_6 So_6 HB_6
      obtain ⟨z0', z1', z2', z3', z4', z5', _, _, _, _, _, _, _⟩ := K6_7.out
      refine bodyPost_ret (v := .tuple #[smV r c (.slice Af fs.length cf) r c (.slice Ah ss.length ch), .int .i64 q]) (by simp [results, Try.results29, go_sem, z0', z1', z2', z3', z4', z5']) rfl ?_
      exact ⟨_, _, rfl, ⟨W5.heap.size, by omega, by omega, Rf_7.out.wider (by omega) (by omega), Rh_7.out.wider (by omega) (by omega)⟩, HB_7.out⟩
end Go.Proofs.Ytilmglockldddaa
