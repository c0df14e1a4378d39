/- Contracts: pools of shared matrices, the reference's. (Printed by gen_S4.py.) -/
import Derived.Test.YtakjmdjjpalaiaaFnsS1
import Derived.Test.YtakjmdjjpalaiaaFnsE10
import Derived.Deep.RegionHeld3
namespace Go.Proofs.Ytakjmdjjpalaiaa
open Go.RowKit

set_option maxHeartbeats 1600000 in
theorem specSP_no (r c : Int) (A : Option Addr) (cap n B : Nat) (zs : List Int) (r2 c2 : Int) (A2 : Option Addr) (cap2 n2 B2 : Nat) (ks : List Int) (l : Int) (w : World) (hs : Sl w B A zs) (hB : B ≤ w.heap.size) (e : n = zs.length) (hn : n ≤ 1100000) (hs2 : Sl w B2 A2 ks) (hB2 : B2 ≤ w.heap.size) (e2 : n2 = ks.length) (hn2 : n2 ≤ 1100000) (h : ¬ (OkS r c zs r2 c2 ks ∧ OkB r c zs l)) :
    Calls Try.prog 31 #[smV r c (.slice A n cap) r2 c2 (.slice A2 n2 cap2), .int .i64 l] w fun e w' => e = .returned (smV 0 0 (.slice none 0 0) 0 0 (.slice none 0 0)) ∧ Below w.heap.size w w' := by
  subst e
  subst e2
  have q0 := (Cell6.new w (.int .i64 r) (.int .i64 c) (.slice A zs.length cap) (.int .i64 r2) (.int .i64 c2) (.slice A2 ks.length cap2) 43).alloc (.cells #[.int .i64 0, .int .i64 0, .slice none 0 0, .int .i64 0, .int .i64 0, .slice none 0 0] 43)
  have q1 := Cell6.new (w.alloc (.cells #[.int .i64 r, .int .i64 c, .slice A zs.length cap, .int .i64 r2, .int .i64 c2, .slice A2 ks.length cap2] 43)) (.int .i64 0) (.int .i64 0) (.slice none 0 0) (.int .i64 0) (.int .i64 0) (.slice none 0 0) 43
  have hb : Below w.heap.size w ((w.alloc (.cells #[.int .i64 r, .int .i64 c, .slice A zs.length cap, .int .i64 r2, .int .i64 c2, .slice A2 ks.length cap2] 43)).alloc (.cells #[.int .i64 0, .int .i64 0, .slice none 0 0, .int .i64 0, .int .i64 0, .slice none 0 0] 43)) := ((Below.refl _ _).alloc (Nat.le_refl _) _).alloc (by simp) _
  have hsz : ((w.alloc (.cells #[.int .i64 r, .int .i64 c, .slice A zs.length cap, .int .i64 r2, .int .i64 c2, .slice A2 ks.length cap2] 43)).alloc (.cells #[.int .i64 0, .int .i64 0, .slice none 0 0, .int .i64 0, .int .i64 0, .slice none 0 0] 43)).heap.size = w.heap.size + 2 := by simp
  simp only [World.size_alloc] at q1
  obtain ⟨W, hW⟩ : ∃ W, (w.alloc (.cells #[.int .i64 r, .int .i64 c, .slice A zs.length cap, .int .i64 r2, .int .i64 c2, .slice A2 ks.length cap2] 43)).alloc (.cells #[.int .i64 0, .int .i64 0, .slice none 0 0, .int .i64 0, .int .i64 0, .slice none 0 0] 43) = W := ⟨_, rfl⟩
  rw [hW] at q0 q1 hb hsz
  have S1 := Lib.hid (hs.below hb hB)
  have S2 := Lib.hid (hs2.below hb hB2)
  have HB := Lib.hid hb
  have Q0 := Lib.hid q0
  have Q1 := Lib.hid q1
  clear hs hs2 hb q1
  obtain ⟨a0, a1, a2, a3, a4, a5, _, _, _, _, _, _, alt⟩ := q0
  go_enter Try.func31, Try.ntmps31
  go_wp2_with fail
  refine (ownS_any r c A cap _ B zs r2 c2 A2 cap2 _ B2 ks W S1.out (by omega) rfl hn S2.out (by omega) rfl hn2).mono ?_
  rintro e w2 ⟨v1, v2, rfl, hr2, hb2⟩
  obtain ⟨A3, c3, A4, c4, rfl, rfl, hq3, hq4⟩ := hr2.form
  have hz2 := hb2.size
  have P0 := Lib.hid (Q0.out.below hb2 alt)
  have P1 := Lib.hid (Q1.out.below hb2 (by omega))
  have K0 := Lib.hid ((((((P0.out.set0 (.int .i64 r)).set1 (.int .i64 c)).set2 (.slice A3 zs.length c3)).set3 (.int .i64 r2)).set4 (.int .i64 c2)).set5 (.slice A4 ks.length c4))
  have K1 := Lib.hid ((((((P1.out.far (a := ⟨w.heap.size, 0, none⟩) (show w.heap.size + 1 ≠ w.heap.size by omega) (.int .i64 r)).far (a := ⟨w.heap.size, 1, none⟩) (show w.heap.size + 1 ≠ w.heap.size by omega) (.int .i64 c)).far (a := ⟨w.heap.size, 2, none⟩) (show w.heap.size + 1 ≠ w.heap.size by omega) (.slice A3 zs.length c3)).far (a := ⟨w.heap.size, 3, none⟩) (show w.heap.size + 1 ≠ w.heap.size by omega) (.int .i64 r2)).far (a := ⟨w.heap.size, 4, none⟩) (show w.heap.size + 1 ≠ w.heap.size by omega) (.int .i64 c2)).far (a := ⟨w.heap.size, 5, none⟩) (show w.heap.size + 1 ≠ w.heap.size by omega) (.slice A4 ks.length c4))
  have KR := Lib.hid ((((((hr2.grown (set_grown _ (w.heap.size) 0 (.int .i64 r)) (fun g e => by cases e; left; omega)).grown (set_grown _ (w.heap.size) 1 (.int .i64 c)) (fun g e => by cases e; left; omega)).grown (set_grown _ (w.heap.size) 2 (.slice A3 zs.length c3)) (fun g e => by cases e; left; omega)).grown (set_grown _ (w.heap.size) 3 (.int .i64 r2)) (fun g e => by cases e; left; omega)).grown (set_grown _ (w.heap.size) 4 (.int .i64 c2)) (fun g e => by cases e; left; omega)).grown (set_grown _ (w.heap.size) 5 (.slice A4 ks.length c4)) (fun g e => by cases e; left; omega))
  have KB := Lib.hid (((((((HB.out.trans (hb2.mono (by omega))).setCell (p := ⟨w.heap.size, 0, none⟩) (show w.heap.size ≤ w.heap.size by omega) (.int .i64 r)).setCell (p := ⟨w.heap.size, 1, none⟩) (show w.heap.size ≤ w.heap.size by omega) (.int .i64 c)).setCell (p := ⟨w.heap.size, 2, none⟩) (show w.heap.size ≤ w.heap.size by omega) (.slice A3 zs.length c3)).setCell (p := ⟨w.heap.size, 3, none⟩) (show w.heap.size ≤ w.heap.size by omega) (.int .i64 r2)).setCell (p := ⟨w.heap.size, 4, none⟩) (show w.heap.size ≤ w.heap.size by omega) (.int .i64 c2)).setCell (p := ⟨w.heap.size, 5, none⟩) (show w.heap.size ≤ w.heap.size by omega) (.slice A4 ks.length c4))
  have KS : ((((((w2.setCell ⟨w.heap.size, 0, none⟩ (.int .i64 r)).setCell ⟨w.heap.size, 1, none⟩ (.int .i64 c)).setCell ⟨w.heap.size, 2, none⟩ (.slice A3 zs.length c3)).setCell ⟨w.heap.size, 3, none⟩ (.int .i64 r2)).setCell ⟨w.heap.size, 4, none⟩ (.int .i64 c2)).setCell ⟨w.heap.size, 5, none⟩ (.slice A4 ks.length c4)).heap.size = w2.heap.size := by simp
  clear a0 a1 a2 a3 a4 a5 alt Q0 Q1 S1 S2 HB hr2 hb2
  obtain ⟨a0, a1, a2, a3, a4, a5, fa0, fa1, fa2, fa3, fa4, fa5, alt⟩ := P0.out
  go_wp2_with fail
  clear a0 a1 a2 a3 a4 a5 fa0 fa1 fa2 fa3 fa4 fa5 alt P0 P1
  obtain ⟨U, hU⟩ : ∃ U, ((((((w2.setCell ⟨w.heap.size, 0, none⟩ (.int .i64 r)).setCell ⟨w.heap.size, 1, none⟩ (.int .i64 c)).setCell ⟨w.heap.size, 2, none⟩ (.slice A3 zs.length c3)).setCell ⟨w.heap.size, 3, none⟩ (.int .i64 r2)).setCell ⟨w.heap.size, 4, none⟩ (.int .i64 c2)).setCell ⟨w.heap.size, 5, none⟩ (.slice A4 ks.length c4)) = U := ⟨_, rfl⟩
  rw [hU] at K0 K1 KR KB KS ⊢
  clear hU hW
  have hUs : w.heap.size + 2 ≤ U.heap.size := by omega
  have L1 := Lib.hid (KR.out.sl1.more (Nat.le_of_eq KS.symm))
  have L2 := Lib.hid (KR.out.sl2.more (Nat.le_of_eq KS.symm))
  clear KR KS hsz hz2
  by_cases ho : OkS r c zs r2 c2 ks
  · have hb' : ¬ OkB r c zs l := fun x => h ⟨ho, x⟩
    have HO := Lib.hid ho
    have HN := Lib.hid hb'
    clear h ho hb'
    refine (specSMV_any r c A3 c3 _ U.heap.size zs r2 c2 A4 c4 _ U.heap.size ks U L1.out (Nat.le_refl _) rfl hn L2.out (Nat.le_refl _) rfl hn2 true ⟨fun _ => HO.out, fun _ => rfl⟩).mono ?_
    rintro e w3 ⟨rfl, hb3⟩
    have hs3 := hb3.size
    have M0 := Lib.hid (K0.out.below hb3 (by omega))
    have M1 := Lib.hid (K1.out.below hb3 (by omega))
    have MS := Lib.hid (L1.out.below hb3 (Nat.le_refl _))
    have MB := Lib.hid (KB.out.trans (hb3.mono (by omega)))
    clear hb3 K0 K1 L1 L2 KB
    obtain ⟨a0, a1, a2, a3, a4, a5, _, _, _, _, _, _, alt⟩ := M0.out
    go_wp2_with fail
    refine (fits_any r c l A3 c3 _ U.heap.size zs w3 MS.out hs3 rfl (by omega) false ⟨fun e => (by simp at e), fun e => absurd e HN.out⟩).mono ?_
    rintro e w4 ⟨rfl, hb4⟩
    have P2 := Lib.hid (M1.out.below hb4 (by omega))
    have HB2 := Lib.hid (MB.out.trans (hb4.mono (by omega)))
    clear hb4 a0 a1 a2 a3 a4 a5 alt M0 M1 MS MB
    obtain ⟨d0, d1, d2, d3, d4, d5, fd0, fd1, fd2, fd3, fd4, fd5, dlt⟩ := P2.out
    have N2 := Lib.hid ((((((P2.out.set0 (.int .i64 0)).set1 (.int .i64 0)).set2 (.slice none 0 0)).set3 (.int .i64 0)).set4 (.int .i64 0)).set5 (.slice none 0 0))
    have NB := Lib.hid ((((((HB2.out.setCell (p := ⟨w.heap.size + 1, 0, none⟩) (show w.heap.size ≤ w.heap.size + 1 by omega) (.int .i64 0)).setCell (p := ⟨w.heap.size + 1, 1, none⟩) (show w.heap.size ≤ w.heap.size + 1 by omega) (.int .i64 0)).setCell (p := ⟨w.heap.size + 1, 2, none⟩) (show w.heap.size ≤ w.heap.size + 1 by omega) (.slice none 0 0)).setCell (p := ⟨w.heap.size + 1, 3, none⟩) (show w.heap.size ≤ w.heap.size + 1 by omega) (.int .i64 0)).setCell (p := ⟨w.heap.size + 1, 4, none⟩) (show w.heap.size ≤ w.heap.size + 1 by omega) (.int .i64 0)).setCell (p := ⟨w.heap.size + 1, 5, none⟩) (show w.heap.size ≤ w.heap.size + 1 by omega) (.slice none 0 0))
    go_wp2
    obtain ⟨Z, hZ⟩ : ∃ Z, ((((((w4.setCell ⟨w.heap.size + 1, 0, none⟩ (.int .i64 0)).setCell ⟨w.heap.size + 1, 1, none⟩ (.int .i64 0)).setCell ⟨w.heap.size + 1, 2, none⟩ (.slice none 0 0)).setCell ⟨w.heap.size + 1, 3, none⟩ (.int .i64 0)).setCell ⟨w.heap.size + 1, 4, none⟩ (.int .i64 0)).setCell ⟨w.heap.size + 1, 5, none⟩ (.slice none 0 0)) = Z := ⟨_, rfl⟩
    rw [hZ] at N2 NB ⊢
    obtain ⟨z0, z1, z2, z3, z4, z5, _, _, _, _, _, _, _⟩ := N2.out
    refine bodyPost_ret (v := smV 0 0 (.slice none 0 0) 0 0 (.slice none 0 0)) (by simp [results, Try.results31, go_sem, z0, z1, z2, z3, z4, z5]) rfl ?_
    exact ⟨rfl, NB.out⟩
  · have HO := Lib.hid ho
    clear h ho
    refine (specSMV_any r c A3 c3 _ U.heap.size zs r2 c2 A4 c4 _ U.heap.size ks U L1.out (Nat.le_refl _) rfl hn L2.out (Nat.le_refl _) rfl hn2 false ⟨fun e => (by simp at e), fun e => absurd e HO.out⟩).mono ?_
    rintro e w3 ⟨rfl, hb3⟩
    have P2 := Lib.hid (K1.out.below hb3 (by omega))
    have HB2 := Lib.hid (KB.out.trans (hb3.mono (by omega)))
    clear hb3 K0 K1 L1 L2 KB
    obtain ⟨d0, d1, d2, d3, d4, d5, fd0, fd1, fd2, fd3, fd4, fd5, dlt⟩ := P2.out
    have N2 := Lib.hid ((((((P2.out.set0 (.int .i64 0)).set1 (.int .i64 0)).set2 (.slice none 0 0)).set3 (.int .i64 0)).set4 (.int .i64 0)).set5 (.slice none 0 0))
    have NB := Lib.hid ((((((HB2.out.setCell (p := ⟨w.heap.size + 1, 0, none⟩) (show w.heap.size ≤ w.heap.size + 1 by omega) (.int .i64 0)).setCell (p := ⟨w.heap.size + 1, 1, none⟩) (show w.heap.size ≤ w.heap.size + 1 by omega) (.int .i64 0)).setCell (p := ⟨w.heap.size + 1, 2, none⟩) (show w.heap.size ≤ w.heap.size + 1 by omega) (.slice none 0 0)).setCell (p := ⟨w.heap.size + 1, 3, none⟩) (show w.heap.size ≤ w.heap.size + 1 by omega) (.int .i64 0)).setCell (p := ⟨w.heap.size + 1, 4, none⟩) (show w.heap.size ≤ w.heap.size + 1 by omega) (.int .i64 0)).setCell (p := ⟨w.heap.size + 1, 5, none⟩) (show w.heap.size ≤ w.heap.size + 1 by omega) (.slice none 0 0))
    go_wp2
    obtain ⟨Z, hZ⟩ : ∃ Z, ((((((w3.setCell ⟨w.heap.size + 1, 0, none⟩ (.int .i64 0)).setCell ⟨w.heap.size + 1, 1, none⟩ (.int .i64 0)).setCell ⟨w.heap.size + 1, 2, none⟩ (.slice none 0 0)).setCell ⟨w.heap.size + 1, 3, none⟩ (.int .i64 0)).setCell ⟨w.heap.size + 1, 4, none⟩ (.int .i64 0)).setCell ⟨w.heap.size + 1, 5, none⟩ (.slice none 0 0)) = Z := ⟨_, rfl⟩
    rw [hZ] at N2 NB ⊢
    obtain ⟨z0, z1, z2, z3, z4, z5, _, _, _, _, _, _, _⟩ := N2.out
    refine bodyPost_ret (v := smV 0 0 (.slice none 0 0) 0 0 (.slice none 0 0)) (by simp [results, Try.results31, go_sem, z0, z1, z2, z3, z4, z5]) rfl ?_
    exact ⟨rfl, NB.out⟩
set_option maxHeartbeats 3200000 in
theorem specSP_yes (r c : Int) (A : Option Addr) (cap n B : Nat) (zs : List Int) (r2 c2 : Int) (A2 : Option Addr) (cap2 n2 B2 : Nat) (ks : List Int) (l : Int) (w : World) (hs : Sl w B A zs) (hB : B ≤ w.heap.size) (e : n = zs.length) (hn : n ≤ 1100000) (hs2 : Sl w B2 A2 ks) (hB2 : B2 ≤ w.heap.size) (e2 : n2 = ks.length) (hn2 : n2 ≤ 1100000) (h : OkS r c zs r2 c2 ks ∧ OkB r c zs l) :
    Calls Try.prog 31 #[smV r c (.slice A n cap) r2 c2 (.slice A2 n2 cap2), .int .i64 l] w fun e w' => ∃ s s2, e = .returned (smV (smpR r c l zs) (smpC r c l zs) s (smpR r c l zs) (smpC r c l zs) s2) ∧ RowS w' w.heap.size w'.heap.size s s2 (smpZ r c l zs) (smpZ r c l ks) ∧ Below w.heap.size w w' := by
  subst e
  subst e2
  obtain ⟨ho, hbb⟩ := h
  obtain ⟨hm1, hm2, rfl, rfl⟩ := id ho
  have hsm := smp_same (l := l) hm1 hm2
  obtain ⟨pr, hpr⟩ : ∃ x, smpR r c l zs = x := ⟨_, rfl⟩
  obtain ⟨pc, hpc⟩ : ∃ x, smpC r c l zs = x := ⟨_, rfl⟩
  obtain ⟨ps, hps⟩ : ∃ x, smpZ r c l zs = x := ⟨_, rfl⟩
  obtain ⟨qs, hqs⟩ : ∃ x, smpZ r c l ks = x := ⟨_, rfl⟩
  rw [hpr, hpc] at hsm
  rw [hpr, hpc, hps, hqs]
  have HP := Lib.hid (And.intro (show smpR r c l zs = pr ∧ smpC r c l zs = pc ∧ smpZ r c l zs = ps from ⟨hpr, hpc, hps⟩) (show smpR r c l ks = pr ∧ smpC r c l ks = pc ∧ smpZ r c l ks = qs from ⟨hsm.1, hsm.2, hqs⟩))
  have HO := Lib.hid ho
  have HN := Lib.hid hbb
  clear hpr hpc hps hqs hsm ho hbb hm1 hm2
  have q0 := (Cell6.new w (.int .i64 r) (.int .i64 c) (.slice A zs.length cap) (.int .i64 r) (.int .i64 c) (.slice A2 ks.length cap2) 43).alloc (.cells #[.int .i64 0, .int .i64 0, .slice none 0 0, .int .i64 0, .int .i64 0, .slice none 0 0] 43)
  have q1 := Cell6.new (w.alloc (.cells #[.int .i64 r, .int .i64 c, .slice A zs.length cap, .int .i64 r, .int .i64 c, .slice A2 ks.length cap2] 43)) (.int .i64 0) (.int .i64 0) (.slice none 0 0) (.int .i64 0) (.int .i64 0) (.slice none 0 0) 43
  have hb : Below w.heap.size w ((w.alloc (.cells #[.int .i64 r, .int .i64 c, .slice A zs.length cap, .int .i64 r, .int .i64 c, .slice A2 ks.length cap2] 43)).alloc (.cells #[.int .i64 0, .int .i64 0, .slice none 0 0, .int .i64 0, .int .i64 0, .slice none 0 0] 43)) := ((Below.refl _ _).alloc (Nat.le_refl _) _).alloc (by simp) _
  have hsz : ((w.alloc (.cells #[.int .i64 r, .int .i64 c, .slice A zs.length cap, .int .i64 r, .int .i64 c, .slice A2 ks.length cap2] 43)).alloc (.cells #[.int .i64 0, .int .i64 0, .slice none 0 0, .int .i64 0, .int .i64 0, .slice none 0 0] 43)).heap.size = w.heap.size + 2 := by simp
  simp only [World.size_alloc] at q1
  obtain ⟨W, hW⟩ : ∃ W, (w.alloc (.cells #[.int .i64 r, .int .i64 c, .slice A zs.length cap, .int .i64 r, .int .i64 c, .slice A2 ks.length cap2] 43)).alloc (.cells #[.int .i64 0, .int .i64 0, .slice none 0 0, .int .i64 0, .int .i64 0, .slice none 0 0] 43) = W := ⟨_, rfl⟩
  rw [hW] at q0 q1 hb hsz
  have S1 := Lib.hid (hs.below hb hB)
  have S2 := Lib.hid (hs2.below hb hB2)
  have HB := Lib.hid hb
  have Q0 := Lib.hid q0
  have Q1 := Lib.hid q1
  clear hs hs2 hb q1
  obtain ⟨a0, a1, a2, a3, a4, a5, _, _, _, _, _, _, alt⟩ := q0
  go_enter Try.func31, Try.ntmps31
  go_wp2_with fail
  refine (ownS_any r c A cap _ B zs r c A2 cap2 _ B2 ks W S1.out (by omega) rfl hn S2.out (by omega) rfl hn2).mono ?_
  rintro e w2 ⟨v1, v2, rfl, hr2, hb2⟩
  obtain ⟨A3, c3, A4, c4, rfl, rfl, hq3, hq4⟩ := hr2.form
  have hz2 := hb2.size
  have P0 := Lib.hid (Q0.out.below hb2 alt)
  have P1 := Lib.hid (Q1.out.below hb2 (by omega))
  have K0 := Lib.hid ((((((P0.out.set0 (.int .i64 r)).set1 (.int .i64 c)).set2 (.slice A3 zs.length c3)).set3 (.int .i64 r)).set4 (.int .i64 c)).set5 (.slice A4 ks.length c4))
  have K1 := Lib.hid ((((((P1.out.far (a := ⟨w.heap.size, 0, none⟩) (show w.heap.size + 1 ≠ w.heap.size by omega) (.int .i64 r)).far (a := ⟨w.heap.size, 1, none⟩) (show w.heap.size + 1 ≠ w.heap.size by omega) (.int .i64 c)).far (a := ⟨w.heap.size, 2, none⟩) (show w.heap.size + 1 ≠ w.heap.size by omega) (.slice A3 zs.length c3)).far (a := ⟨w.heap.size, 3, none⟩) (show w.heap.size + 1 ≠ w.heap.size by omega) (.int .i64 r)).far (a := ⟨w.heap.size, 4, none⟩) (show w.heap.size + 1 ≠ w.heap.size by omega) (.int .i64 c)).far (a := ⟨w.heap.size, 5, none⟩) (show w.heap.size + 1 ≠ w.heap.size by omega) (.slice A4 ks.length c4))
  have KR := Lib.hid ((((((hr2.grown (set_grown _ (w.heap.size) 0 (.int .i64 r)) (fun g e => by cases e; left; omega)).grown (set_grown _ (w.heap.size) 1 (.int .i64 c)) (fun g e => by cases e; left; omega)).grown (set_grown _ (w.heap.size) 2 (.slice A3 zs.length c3)) (fun g e => by cases e; left; omega)).grown (set_grown _ (w.heap.size) 3 (.int .i64 r)) (fun g e => by cases e; left; omega)).grown (set_grown _ (w.heap.size) 4 (.int .i64 c)) (fun g e => by cases e; left; omega)).grown (set_grown _ (w.heap.size) 5 (.slice A4 ks.length c4)) (fun g e => by cases e; left; omega))
  have KB := Lib.hid (((((((HB.out.trans (hb2.mono (by omega))).setCell (p := ⟨w.heap.size, 0, none⟩) (show w.heap.size ≤ w.heap.size by omega) (.int .i64 r)).setCell (p := ⟨w.heap.size, 1, none⟩) (show w.heap.size ≤ w.heap.size by omega) (.int .i64 c)).setCell (p := ⟨w.heap.size, 2, none⟩) (show w.heap.size ≤ w.heap.size by omega) (.slice A3 zs.length c3)).setCell (p := ⟨w.heap.size, 3, none⟩) (show w.heap.size ≤ w.heap.size by omega) (.int .i64 r)).setCell (p := ⟨w.heap.size, 4, none⟩) (show w.heap.size ≤ w.heap.size by omega) (.int .i64 c)).setCell (p := ⟨w.heap.size, 5, none⟩) (show w.heap.size ≤ w.heap.size by omega) (.slice A4 ks.length c4))
  have KS : ((((((w2.setCell ⟨w.heap.size, 0, none⟩ (.int .i64 r)).setCell ⟨w.heap.size, 1, none⟩ (.int .i64 c)).setCell ⟨w.heap.size, 2, none⟩ (.slice A3 zs.length c3)).setCell ⟨w.heap.size, 3, none⟩ (.int .i64 r)).setCell ⟨w.heap.size, 4, none⟩ (.int .i64 c)).setCell ⟨w.heap.size, 5, none⟩ (.slice A4 ks.length c4)).heap.size = w2.heap.size := by simp
  clear a0 a1 a2 a3 a4 a5 alt Q0 Q1 S1 S2 HB hr2 hb2
  obtain ⟨a0, a1, a2, a3, a4, a5, fa0, fa1, fa2, fa3, fa4, fa5, alt⟩ := P0.out
  go_wp2_with fail
  clear a0 a1 a2 a3 a4 a5 fa0 fa1 fa2 fa3 fa4 fa5 alt P0 P1
  obtain ⟨U, hU⟩ : ∃ U, ((((((w2.setCell ⟨w.heap.size, 0, none⟩ (.int .i64 r)).setCell ⟨w.heap.size, 1, none⟩ (.int .i64 c)).setCell ⟨w.heap.size, 2, none⟩ (.slice A3 zs.length c3)).setCell ⟨w.heap.size, 3, none⟩ (.int .i64 r)).setCell ⟨w.heap.size, 4, none⟩ (.int .i64 c)).setCell ⟨w.heap.size, 5, none⟩ (.slice A4 ks.length c4)) = U := ⟨_, rfl⟩
  rw [hU] at K0 K1 KR KB KS ⊢
  clear hU hW
  have hUs : w.heap.size + 2 ≤ U.heap.size := by omega
  have L1 := Lib.hid (KR.out.sl1.more (Nat.le_of_eq KS.symm))
  have L2 := Lib.hid (KR.out.sl2.more (Nat.le_of_eq KS.symm))
  clear KR KS hsz hz2
  refine (specSMV_any r c A3 c3 _ U.heap.size zs r c A4 c4 _ U.heap.size ks U L1.out (Nat.le_refl _) rfl hn L2.out (Nat.le_refl _) rfl hn2 true ⟨fun _ => HO.out, fun _ => rfl⟩).mono ?_
  rintro e w3 ⟨rfl, hb3⟩
  have hs3 := hb3.size
  have M0 := Lib.hid (K0.out.below hb3 (by omega))
  have MS := Lib.hid (L1.out.below hb3 (Nat.le_refl _))
  obtain ⟨a0, a1, a2, a3, a4, a5, _, _, _, _, _, _, alt⟩ := M0.out
  go_wp2_with fail
  refine (fits_any r c l A3 c3 _ U.heap.size zs w3 MS.out hs3 rfl (by omega) true ⟨fun _ => HN.out, fun _ => rfl⟩).mono ?_
  rintro e X ⟨rfl, hb4⟩
  have hbx := hb3.trans (hb4.mono hs3)
  have hsx := hbx.size
  clear a0 a1 a2 a3 a4 a5 alt M0 MS hb3 hb4
  have q0 := K0.out.below hbx (show w.heap.size < U.heap.size by omega)
  have Q1 := Lib.hid (K1.out.below hbx (show w.heap.size + 1 < U.heap.size by omega))
  have L1x := (L1.out.below hbx (Nat.le_refl _)).more hsx
  have L2x := (L2.out.below hbx (Nat.le_refl _)).more hsx
  have HB := Lib.hid (KB.out.trans (hbx.mono (show w.heap.size ≤ U.heap.size by omega)))
  have hcA := Lib.hid (specSum_any r c l A3 c3 _ X.heap.size zs X.drew L1x (Nat.le_refl _) rfl hn)
  rw [HP.out.1.1, HP.out.1.2.1, HP.out.1.2.2] at hcA
  have hcB := Lib.hid fun wx (hx : Below X.heap.size X wx) => specSum_any r c l A4 c4 _ X.heap.size ks wx (L2x.below hx (Nat.le_refl _)) hx.size rfl hn2
  rw [HP.out.2.1, HP.out.2.2.1, HP.out.2.2.2] at hcB
  have HMK := Lib.hid fun w' (hx : Below X.heap.size X w') => (show w'.cell? ⟨w.heap.size, 0, none⟩ = some (.int .i64 r) ∧ w'.cell? ⟨w.heap.size, 1, none⟩ = some (.int .i64 c) ∧ w'.cell? ⟨w.heap.size, 2, none⟩ = some (.slice A3 zs.length c3) ∧ w'.cell? ⟨w.heap.size, 3, none⟩ = some (.int .i64 r) ∧ w'.cell? ⟨w.heap.size, 4, none⟩ = some (.int .i64 c) ∧ w'.cell? ⟨w.heap.size, 5, none⟩ = some (.slice A4 ks.length c4) from (by have h := q0.below hx (by omega); exact ⟨h.c0, h.c1, h.c2, h.c3, h.c4, h.c5⟩))
  have HM2 := Lib.hid fun w' (hx : Below X.heap.size X w') (v0 v1 v2 v3 v4 v5 : Value) => (show ((((((w'.setCell ⟨w.heap.size + 1, 0, none⟩ v0).setCell ⟨w.heap.size + 1, 1, none⟩ v1).setCell ⟨w.heap.size + 1, 2, none⟩ v2).setCell ⟨w.heap.size + 1, 3, none⟩ v3).setCell ⟨w.heap.size + 1, 4, none⟩ v4).setCell ⟨w.heap.size + 1, 5, none⟩ v5).cell? ⟨w.heap.size, 0, none⟩ = some (.int .i64 r) ∧ ((((((w'.setCell ⟨w.heap.size + 1, 0, none⟩ v0).setCell ⟨w.heap.size + 1, 1, none⟩ v1).setCell ⟨w.heap.size + 1, 2, none⟩ v2).setCell ⟨w.heap.size + 1, 3, none⟩ v3).setCell ⟨w.heap.size + 1, 4, none⟩ v4).setCell ⟨w.heap.size + 1, 5, none⟩ v5).cell? ⟨w.heap.size, 1, none⟩ = some (.int .i64 c) ∧ ((((((w'.setCell ⟨w.heap.size + 1, 0, none⟩ v0).setCell ⟨w.heap.size + 1, 1, none⟩ v1).setCell ⟨w.heap.size + 1, 2, none⟩ v2).setCell ⟨w.heap.size + 1, 3, none⟩ v3).setCell ⟨w.heap.size + 1, 4, none⟩ v4).setCell ⟨w.heap.size + 1, 5, none⟩ v5).cell? ⟨w.heap.size, 2, none⟩ = some (.slice A3 zs.length c3) ∧ ((((((w'.setCell ⟨w.heap.size + 1, 0, none⟩ v0).setCell ⟨w.heap.size + 1, 1, none⟩ v1).setCell ⟨w.heap.size + 1, 2, none⟩ v2).setCell ⟨w.heap.size + 1, 3, none⟩ v3).setCell ⟨w.heap.size + 1, 4, none⟩ v4).setCell ⟨w.heap.size + 1, 5, none⟩ v5).cell? ⟨w.heap.size, 3, none⟩ = some (.int .i64 r) ∧ ((((((w'.setCell ⟨w.heap.size + 1, 0, none⟩ v0).setCell ⟨w.heap.size + 1, 1, none⟩ v1).setCell ⟨w.heap.size + 1, 2, none⟩ v2).setCell ⟨w.heap.size + 1, 3, none⟩ v3).setCell ⟨w.heap.size + 1, 4, none⟩ v4).setCell ⟨w.heap.size + 1, 5, none⟩ v5).cell? ⟨w.heap.size, 4, none⟩ = some (.int .i64 c) ∧ ((((((w'.setCell ⟨w.heap.size + 1, 0, none⟩ v0).setCell ⟨w.heap.size + 1, 1, none⟩ v1).setCell ⟨w.heap.size + 1, 2, none⟩ v2).setCell ⟨w.heap.size + 1, 3, none⟩ v3).setCell ⟨w.heap.size + 1, 4, none⟩ v4).setCell ⟨w.heap.size + 1, 5, none⟩ v5).cell? ⟨w.heap.size, 5, none⟩ = some (.slice A4 ks.length c4) from (by have h := ((((((q0.below hx (by omega)).far (a := ⟨w.heap.size + 1, 0, none⟩) (by simp) v0).far (a := ⟨w.heap.size + 1, 1, none⟩) (by simp) v1).far (a := ⟨w.heap.size + 1, 2, none⟩) (by simp) v2).far (a := ⟨w.heap.size + 1, 3, none⟩) (by simp) v3).far (a := ⟨w.heap.size + 1, 4, none⟩) (by simp) v4).far (a := ⟨w.heap.size + 1, 5, none⟩) (by simp) v5; exact ⟨h.c0, h.c1, h.c2, h.c3, h.c4, h.c5⟩))
  have hcur : Below X.heap.size X X.drew := Below.of_drew _
  have hsz' : w.heap.size + 2 ≤ X.heap.size := by omega
  obtain ⟨a0, a1, a2, a3, a4, a5, _, _, _, _, _, _, alt⟩ := q0
  clear L1x L2x hbx K0 K1 L1 L2 KB HO HN hB hB2 hn hn2
  go_wp2
  go_region_held3 (fun w' => w'.cell? ⟨w.heap.size, 0, none⟩ = some (.int .i64 r) ∧ w'.cell? ⟨w.heap.size, 1, none⟩ = some (.int .i64 c) ∧ w'.cell? ⟨w.heap.size, 2, none⟩ = some (.slice A3 zs.length c3) ∧ w'.cell? ⟨w.heap.size, 3, none⟩ = some (.int .i64 r) ∧ w'.cell? ⟨w.heap.size, 4, none⟩ = some (.int .i64 c) ∧ w'.cell? ⟨w.heap.size, 5, none⟩ = some (.slice A4 ks.length c4))
    (first | with_reducible exact HMK.out _ hcur | with_reducible exact HM2.out _ hcur _ _ _ _ _ _ | fail)
    (first
      | (go_simp; go_at_call 16; (with_reducible refine hcA.out.mono ?_); rintro e Wa ⟨sva, rfl, hra, hba⟩; obtain ⟨Aa, ca, rfl, _, _, _⟩ := hra.form; have hsa := hba.size; have hcur := hcur.trans (hba.mono (Nat.le_refl _)))
      | (go_simp; go_at_call 16; (with_reducible refine (hcB.out Wa hcur).mono ?_); rintro e Wb ⟨svb, rfl, hrb, hbb⟩; obtain ⟨Ab, cb, rfl, _, _, _⟩ := hrb.form; have hra := hra.below hbb (Nat.le_refl _); have hsb := hbb.size; have hcur := hcur.trans (hbb.mono hcur.size); obtain ⟨b0, b1, b2, b3, b4, b5, fb0, fb1, fb2, fb3, fb4, fb5, blt⟩ := Q1.out.below hcur (show w.heap.size + 1 < X.heap.size by omega))
      | fail)
  have K1 := Q1.out.below hcur (by omega)
  have hsW : X.drew.heap.size = X.heap.size := rfl
  have N1 := Lib.hid ((((((K1.set0 (.int .i64 pr)).set1 (.int .i64 pc)).set2 (.slice Aa ps.length ca)).set3 (.int .i64 pr)).set4 (.int .i64 pc)).set5 (.slice Ab qs.length cb))
  have NR := Lib.hid ((((((hra.grown (set_grown _ (w.heap.size + 1) 0 (.int .i64 pr)) (fun g e => by cases e; left; omega)).grown (set_grown _ (w.heap.size + 1) 1 (.int .i64 pc)) (fun g e => by cases e; left; omega)).grown (set_grown _ (w.heap.size + 1) 2 (.slice Aa ps.length ca)) (fun g e => by cases e; left; omega)).grown (set_grown _ (w.heap.size + 1) 3 (.int .i64 pr)) (fun g e => by cases e; left; omega)).grown (set_grown _ (w.heap.size + 1) 4 (.int .i64 pc)) (fun g e => by cases e; left; omega)).grown (set_grown _ (w.heap.size + 1) 5 (.slice Ab qs.length cb)) (fun g e => by cases e; left; omega))
  have NR3 := Lib.hid ((((((hrb.grown (set_grown _ (w.heap.size + 1) 0 (.int .i64 pr)) (fun g e => by cases e; left; omega)).grown (set_grown _ (w.heap.size + 1) 1 (.int .i64 pc)) (fun g e => by cases e; left; omega)).grown (set_grown _ (w.heap.size + 1) 2 (.slice Aa ps.length ca)) (fun g e => by cases e; left; omega)).grown (set_grown _ (w.heap.size + 1) 3 (.int .i64 pr)) (fun g e => by cases e; left; omega)).grown (set_grown _ (w.heap.size + 1) 4 (.int .i64 pc)) (fun g e => by cases e; left; omega)).grown (set_grown _ (w.heap.size + 1) 5 (.slice Ab qs.length cb)) (fun g e => by cases e; left; omega))
  have NB := Lib.hid (((((((HB.out.trans (hcur.mono (show w.heap.size ≤ X.heap.size by omega))).setCell (p := ⟨w.heap.size + 1, 0, none⟩) (show w.heap.size ≤ w.heap.size + 1 by omega) (.int .i64 pr)).setCell (p := ⟨w.heap.size + 1, 1, none⟩) (show w.heap.size ≤ w.heap.size + 1 by omega) (.int .i64 pc)).setCell (p := ⟨w.heap.size + 1, 2, none⟩) (show w.heap.size ≤ w.heap.size + 1 by omega) (.slice Aa ps.length ca)).setCell (p := ⟨w.heap.size + 1, 3, none⟩) (show w.heap.size ≤ w.heap.size + 1 by omega) (.int .i64 pr)).setCell (p := ⟨w.heap.size + 1, 4, none⟩) (show w.heap.size ≤ w.heap.size + 1 by omega) (.int .i64 pc)).setCell (p := ⟨w.heap.size + 1, 5, none⟩) (show w.heap.size ≤ w.heap.size + 1 by omega) (.slice Ab qs.length cb))
  have NS : ((((((Wb.setCell ⟨w.heap.size + 1, 0, none⟩ (.int .i64 pr)).setCell ⟨w.heap.size + 1, 1, none⟩ (.int .i64 pc)).setCell ⟨w.heap.size + 1, 2, none⟩ (.slice Aa ps.length ca)).setCell ⟨w.heap.size + 1, 3, none⟩ (.int .i64 pr)).setCell ⟨w.heap.size + 1, 4, none⟩ (.int .i64 pc)).setCell ⟨w.heap.size + 1, 5, none⟩ (.slice Ab qs.length cb)).heap.size = Wb.heap.size := by simp
  have HS := Lib.hid (show X.heap.size ≤ Wa.heap.size ∧ Wa.heap.size ≤ Wb.heap.size ∧ w.heap.size ≤ X.drew.heap.size from ⟨hsa, hsb, by omega⟩)
  clear hra hrb hba hbb hsW hsa hsb K1
  go_wp2
  obtain ⟨Z, hZ⟩ : ∃ Z, ((((((Wb.setCell ⟨w.heap.size + 1, 0, none⟩ (.int .i64 pr)).setCell ⟨w.heap.size + 1, 1, none⟩ (.int .i64 pc)).setCell ⟨w.heap.size + 1, 2, none⟩ (.slice Aa ps.length ca)).setCell ⟨w.heap.size + 1, 3, none⟩ (.int .i64 pr)).setCell ⟨w.heap.size + 1, 4, none⟩ (.int .i64 pc)).setCell ⟨w.heap.size + 1, 5, none⟩ (.slice Ab qs.length cb)) = Z := ⟨_, rfl⟩
  rw [hZ] at N1 NR NR3 NB NS ⊢
  obtain ⟨z0, z1, z2, z3, z4, z5, _, _, _, _, _, _, _⟩ := N1.out
  refine bodyPost_ret (v := smV pr pc (.slice Aa ps.length ca) pr pc (.slice Ab qs.length cb)) (by simp [results, Try.results31, go_sem, z0, z1, z2, z3, z4, z5]) rfl ?_
  have hh := HS.out
  exact ⟨_, _, rfl, ⟨Wa.heap.size, by omega, by omega, NR.out.wider hh.2.2 (Nat.le_refl _), NR3.out.wider (Nat.le_refl _) (by omega)⟩, NB.out⟩
theorem implSP_any (r c : Int) (A : Option Addr) (cap n B : Nat) (zs : List Int) (r2 c2 : Int) (A2 : Option Addr) (cap2 n2 B2 : Nat) (ks : List Int) (l : Int) (w : World) (hs : Sl w B A zs) (hB : B ≤ w.heap.size) (e : n = zs.length) (hn : n ≤ 1100000) (hs2 : Sl w B2 A2 ks) (hB2 : B2 ≤ w.heap.size) (e2 : n2 = ks.length) (hn2 : n2 ≤ 1100000) :
    Calls Try.prog 33 #[smV r c (.slice A n cap) r2 c2 (.slice A2 n2 cap2), .int .i64 l] w fun e w' => ∃ s s2, e = .returned (smV (shpR r c l zs r2 c2 ks) (shpC r c l zs r2 c2 ks) s (shpR r c l zs r2 c2 ks) (shpC r c l zs r2 c2 ks) s2) ∧ RowS w' w.heap.size w'.heap.size s s2 (shpZ r c l zs r2 c2 ks) (shpK r c l zs r2 c2 ks) ∧ Below w.heap.size w w' := by
  unfold shpR shpC shpZ shpK
  by_cases h : OkS r c zs r2 c2 ks
  · rw [if_pos h, if_pos h, if_pos h, if_pos h]
    exact implSP_yes r c A cap n B zs r2 c2 A2 cap2 n2 B2 ks l w hs hB e hn hs2 hB2 e2 hn2 h
  · rw [if_neg h, if_neg h, if_neg h, if_neg h]
    exact (implSP_no r c A cap n B zs r2 c2 A2 cap2 n2 B2 ks l w hs hB e hn hs2 hB2 e2 hn2 h).mono fun e w' ⟨h1, h2⟩ => ⟨_, _, h1, RowS.nil_ _ _ _ h2.size, h2⟩
theorem specSP_any (r c : Int) (A : Option Addr) (cap n B : Nat) (zs : List Int) (r2 c2 : Int) (A2 : Option Addr) (cap2 n2 B2 : Nat) (ks : List Int) (l : Int) (w : World) (hs : Sl w B A zs) (hB : B ≤ w.heap.size) (e : n = zs.length) (hn : n ≤ 1100000) (hs2 : Sl w B2 A2 ks) (hB2 : B2 ≤ w.heap.size) (e2 : n2 = ks.length) (hn2 : n2 ≤ 1100000) :
    Calls Try.prog 31 #[smV r c (.slice A n cap) r2 c2 (.slice A2 n2 cap2), .int .i64 l] w fun e w' => ∃ s s2, e = .returned (smV (shpR r c l zs r2 c2 ks) (shpC r c l zs r2 c2 ks) s (shpR r c l zs r2 c2 ks) (shpC r c l zs r2 c2 ks) s2) ∧ RowS w' w.heap.size w'.heap.size s s2 (shpZ r c l zs r2 c2 ks) (shpK r c l zs r2 c2 ks) ∧ Below w.heap.size w w' := by
  unfold shpR shpC shpZ shpK
  by_cases h : OkS r c zs r2 c2 ks
  · rw [if_pos h, if_pos h, if_pos h, if_pos h]
    by_cases hb : OkB r c zs l
    · exact specSP_yes r c A cap n B zs r2 c2 A2 cap2 n2 B2 ks l w hs hB e hn hs2 hB2 e2 hn2 ⟨h, hb⟩
    · have hb2 : ¬ OkB r c ks l := fun x => hb ⟨h.1, x.2⟩
      rw [show smpR r c l zs = 0 from by unfold smpR; rw [if_neg hb], show smpC r c l zs = 0 from by unfold smpC; rw [if_neg hb], show smpZ r c l zs = [] from by unfold smpZ; rw [if_neg hb], show smpZ r c l ks = [] from by unfold smpZ; rw [if_neg hb2]]
      exact (specSP_no r c A cap n B zs r2 c2 A2 cap2 n2 B2 ks l w hs hB e hn hs2 hB2 e2 hn2 (fun x => hb x.2)).mono fun e w' ⟨h1, h2⟩ => ⟨_, _, h1, RowS.nil_ _ _ _ h2.size, h2⟩
  · rw [if_neg h, if_neg h, if_neg h, if_neg h]
    exact (specSP_no r c A cap n B zs r2 c2 A2 cap2 n2 B2 ks l w hs hB e hn hs2 hB2 e2 hn2 (fun x => h x.1)).mono fun e w' ⟨h1, h2⟩ => ⟨_, _, h1, RowS.nil_ _ _ _ h2.size, h2⟩
theorem shpZ_len (r c l : Int) (zs : List Int) (r2 c2 : Int) (ks : List Int) (h1 : zs.length ≤ 1048576) (h2 : ks.length ≤ 1048576) : (shpZ r c l zs r2 c2 ks).length ≤ 1048576 ∧ (shpK r c l zs r2 c2 ks).length ≤ 1048576 := by
  unfold shpZ shpK
  split
  · exact ⟨smpZ_len r c l zs h1, smpZ_len r c l ks h2⟩
  · simp
end Go.Proofs.Ytakjmdjjpalaiaa
