/- Contracts: folded matrices, the program's. (Printed by gen_E6.py.) -/
import Derived.Test.YtakjmdjjpalaiaaFnsE5
namespace Go.Proofs.Ytakjmdjjpalaiaa
open Go.RowKit

theorem nest3 (w : World) (r c r2 c2 : Int) (s s2 : Value) : ∀ W, W = ((w.alloc (.cells #[.int .i64 r, .int .i64 c, s] 26)).alloc (.cells #[.int .i64 r2, .int .i64 c2, s2] 26)).alloc (.cells #[.int .i64 0, .int .i64 0, .slice none 0 0] 26) →
    Cell3 W w.heap.size (.int .i64 r) (.int .i64 c) s ∧ Cell3 W (w.heap.size + 1) (.int .i64 r2) (.int .i64 c2) s2 ∧ Cell3 W (w.heap.size + 1 + 1) (.int .i64 0) (.int .i64 0) (.slice none 0 0) ∧ Below w.heap.size w W ∧ W.heap.size = w.heap.size + 3 := by
  rintro W rfl
  have a := Cell3.new w (.int .i64 r) (.int .i64 c) s 26
  have b := Cell3.new (w.alloc (.cells #[.int .i64 r, .int .i64 c, s] 26)) (.int .i64 r2) (.int .i64 c2) s2 26
  have d := Cell3.new ((w.alloc (.cells #[.int .i64 r, .int .i64 c, s] 26)).alloc (.cells #[.int .i64 r2, .int .i64 c2, s2] 26)) (.int .i64 0) (.int .i64 0) (.slice none 0 0) 26
  simp only [World.size_alloc] at b d
  exact ⟨(a.alloc _).alloc _, b.alloc _, d, (((Below.refl _ _).alloc (Nat.le_refl _) _).alloc (by simp) _).alloc (by simp; omega) _, by simp⟩
def OkF (r c : Int) (zs : List Int) (kr kc : Int) (ks : List Int) : Prop := OkM r c zs ∧ OkM kr kc ks ∧ kr ≤ r ∧ kc ≤ c
/-- The folded matrix, its first n values. -/
def foldTo (kr kc r c : Nat) (zs ks : List Int) (n : Nat) : List Int := (List.range ((r - kr + 1) * (c - kc + 1))).map fun p => if p < n then foldS kr kc c zs ks (p / (c - kc + 1)) (p % (c - kc + 1)) (kr * kc) % 4096 else 0
theorem foldTo_len (kr kc r c : Nat) (zs ks : List Int) (n : Nat) : (foldTo kr kc r c zs ks n).length = (r - kr + 1) * (c - kc + 1) := by simp [foldTo]
theorem foldTo_get (kr kc r c : Nat) (zs ks : List Int) (n p : Nat) (hp : p < (r - kr + 1) * (c - kc + 1)) : (foldTo kr kc r c zs ks n).getD p 0 = if p < n then foldS kr kc c zs ks (p / (c - kc + 1)) (p % (c - kc + 1)) (kr * kc) % 4096 else 0 := by simp [foldTo, hp]
theorem foldTo_zero (kr kc r c : Nat) (zs ks : List Int) : foldTo kr kc r c zs ks 0 = List.replicate ((r - kr + 1) * (c - kc + 1)) 0 := by
  apply ext_getM
  · simp [foldTo]
  · intro p hp
    rw [foldTo_len] at hp
    rw [foldTo_get _ _ _ _ _ _ _ _ hp, if_neg (by omega)]
    simp [List.getD_eq_getElem?_getD, hp]
theorem foldTo_full (kr kc r c : Nat) (zs ks : List Int) : foldTo kr kc r c zs ks ((r - kr + 1) * (c - kc + 1)) = foldZ kr kc r c zs ks := by
  apply ext_getM
  · rw [foldTo_len, foldZ, tab_len]
  · intro p hp
    rw [foldTo_len] at hp
    rw [foldTo_get _ _ _ _ _ _ _ _ hp, if_pos hp, foldZ, tab_get _ _ _ _ hp]
theorem foldTo_succ (kr kc r c : Nat) (zs ks : List Int) (n a b : Nat) (hn : n = a * (c - kc + 1) + b) (hb : b < c - kc + 1) : (foldTo kr kc r c zs ks n).set n (foldS kr kc c zs ks a b (kr * kc) % 4096) = foldTo kr kc r c zs ks (n + 1) := by
  apply ext_getM
  · rw [List.length_set, foldTo_len, foldTo_len]
  · intro p hp
    rw [List.length_set, foldTo_len] at hp
    rw [getM_set, foldTo_len, foldTo_get _ _ _ _ _ _ _ _ hp, foldTo_get _ _ _ _ _ _ _ _ hp]
    by_cases e : n = p
    · subst e
      rw [if_pos ⟨rfl, hp⟩, if_pos (by omega), hn, ix_div hb, ix_mod hb]
    · rw [if_neg (fun h => e h.1)]
      by_cases h : p < n
      · rw [if_pos h, if_pos (by omega)]
      · rw [if_neg h, if_neg (by omega)]
set_option maxHeartbeats 800000 in
theorem implFold_no (r c : Int) (A : Option Addr) (cap n B : Nat) (zs : List Int) (kr kc : Int) (Ak : Option Addr) (capk nk Bk : Nat) (ks : List Int) (w : World) (hs : Sl w B A zs) (hB : B ≤ w.heap.size) (e : n = zs.length) (hn : n ≤ 1100000) (hsk : Sl w Bk Ak ks) (hBk : Bk ≤ w.heap.size) (ek : nk = ks.length) (hnk : nk ≤ 1100000) (h : ¬ OkF r c zs kr kc ks) : Calls Try.prog 42 #[matV r c (.slice A n cap), matV kr kc (.slice Ak nk capk)] w fun e w' => e = .returned (matV 0 0 (.slice none 0 0)) ∧ Below w.heap.size w w' := by
  subst e
  subst ek
  obtain ⟨W, hW⟩ : ∃ W, ((w.alloc (.cells #[.int .i64 r, .int .i64 c, .slice A zs.length cap] 26)).alloc (.cells #[.int .i64 kr, .int .i64 kc, .slice Ak ks.length capk] 26)).alloc (.cells #[.int .i64 0, .int .i64 0, .slice none 0 0] 26) = W := ⟨_, rfl⟩
  obtain ⟨q0, q2, q1, hb, hws⟩ := nest3 w r c kr kc (.slice A zs.length cap) (.slice Ak ks.length capk) W hW.symm
  have HS := Lib.hid (hs.below hb hB)
  have HK := Lib.hid (hsk.below hb hBk)
  have Q0 := Lib.hid q0
  have Q1 := Lib.hid q1
  have Q2 := Lib.hid q2
  obtain ⟨a0, a1, a2, f0, f1, f2, alt⟩ := q0
  clear hs hsk q1 q2
  by_cases hm : OkM r c zs
  · have HM := Lib.hid hm
    by_cases hk : OkM kr kc ks
    · have hl : r < kr ∨ (kr ≤ r ∧ c < kc) := by
        apply Classical.byContradiction
        intro hh
        exact h ⟨hm, hk, by omega, by omega⟩
      have HKM := Lib.hid hk
      clear h hm hk
      go_enter Try.func42, Try.ntmps42
      go_wp2_with fail
      refine (implMV_yes r c A cap _ B zs W HS.out (by omega) rfl (by omega) HM.out).mono ?_
      rintro e w2 ⟨rfl, hb2⟩
      have hs2 := hb2.size
      obtain ⟨y0, y1, y2, _, _, _, ylt⟩ := Q2.out.below hb2 (by omega)
      go_wp2_with fail
      refine (implMV_yes kr kc Ak capk _ Bk ks w2 (HK.out.below hb2 (by omega)) (by omega) rfl (by omega) HKM.out).mono ?_
      rintro e w3 ⟨rfl, hb3⟩
      have hbb : Below W.heap.size W w3 := hb2.trans (hb3.mono hs2)
      obtain ⟨c0, c1, c2, _, _, _, clt⟩ := Q0.out.below hbb (by omega)
      clear y0 y1 y2
      obtain ⟨y0, y1, y2, _, _, _, ylt⟩ := Q2.out.below hbb (by omega)
      have HP := Lib.hid (Q1.out.below hbb (by omega))
      obtain ⟨b0, b1, b2, g0, g1, g2, blt⟩ := HP.out
      have HB := Lib.hid (hb.trans (hbb.mono (by omega)))
      clear hb hb2 hb3 hbb a0 a1 a2 f0 f1 f2 alt
      rcases hl with hl | ⟨hl, hl2⟩
      all_goals (
        go_wp2
        have P2 := ((HP.out.set0 (.int .i64 0)).set1 (.int .i64 0)).set2 (.slice none 0 0)
        have B4 := ((HB.out.setCell (p := ⟨w.heap.size + 1 + 1, 0, none⟩) (by simp; omega) (.int .i64 0)).setCell (p := ⟨w.heap.size + 1 + 1, 1, none⟩) (by simp; omega) (.int .i64 0)).setCell (p := ⟨w.heap.size + 1 + 1, 2, none⟩) (by simp; omega) (.slice none 0 0)
        obtain ⟨W4, hW4⟩ : ∃ W4, (((w3.setCell ⟨w.heap.size + 1 + 1, 0, none⟩ (.int .i64 0)).setCell ⟨w.heap.size + 1 + 1, 1, none⟩ (.int .i64 0)).setCell ⟨w.heap.size + 1 + 1, 2, none⟩ (.slice none 0 0)) = W4 := ⟨_, rfl⟩
        rw [hW4] at P2 B4 ⊢
        obtain ⟨z0, z1, z2, _, _, _, _⟩ := P2
        refine bodyPost_ret (v := matV 0 0 (.slice none 0 0)) (by simp [results, Try.results42, go_sem, z0, z1, z2]) rfl ?_
        exact ⟨rfl, B4⟩)
    · have HKM := Lib.hid hk
      clear h hm hk
      go_enter Try.func42, Try.ntmps42
      go_wp2_with fail
      refine (implMV_yes r c A cap _ B zs W HS.out (by omega) rfl (by omega) HM.out).mono ?_
      rintro e w2 ⟨rfl, hb2⟩
      have hs2 := hb2.size
      obtain ⟨y0, y1, y2, _, _, _, ylt⟩ := Q2.out.below hb2 (by omega)
      go_wp2_with fail
      refine (implMV_no kr kc Ak capk _ Bk ks w2 (HK.out.below hb2 (by omega)) (by omega) rfl (by omega) HKM.out).mono ?_
      rintro e w3 ⟨rfl, hb3⟩
      have hbb : Below W.heap.size W w3 := hb2.trans (hb3.mono hs2)
      have HP := Lib.hid (Q1.out.below hbb (by omega))
      obtain ⟨b0, b1, b2, g0, g1, g2, blt⟩ := HP.out
      have HB := Lib.hid (hb.trans (hbb.mono (by omega)))
      clear hb hb2 hb3 hbb a0 a1 a2 f0 f1 f2 alt y0 y1 y2
      go_wp2
      have P2 := ((HP.out.set0 (.int .i64 0)).set1 (.int .i64 0)).set2 (.slice none 0 0)
      have B4 := ((HB.out.setCell (p := ⟨w.heap.size + 1 + 1, 0, none⟩) (by simp; omega) (.int .i64 0)).setCell (p := ⟨w.heap.size + 1 + 1, 1, none⟩) (by simp; omega) (.int .i64 0)).setCell (p := ⟨w.heap.size + 1 + 1, 2, none⟩) (by simp; omega) (.slice none 0 0)
      obtain ⟨W4, hW4⟩ : ∃ W4, (((w3.setCell ⟨w.heap.size + 1 + 1, 0, none⟩ (.int .i64 0)).setCell ⟨w.heap.size + 1 + 1, 1, none⟩ (.int .i64 0)).setCell ⟨w.heap.size + 1 + 1, 2, none⟩ (.slice none 0 0)) = W4 := ⟨_, rfl⟩
      rw [hW4] at P2 B4 ⊢
      obtain ⟨z0, z1, z2, _, _, _, _⟩ := P2
      refine bodyPost_ret (v := matV 0 0 (.slice none 0 0)) (by simp [results, Try.results42, go_sem, z0, z1, z2]) rfl ?_
      exact ⟨rfl, B4⟩
  · have HM := Lib.hid hm
    clear h hm
    go_enter Try.func42, Try.ntmps42
    go_wp2_with fail
    refine (implMV_no r c A cap _ B zs W HS.out (by omega) rfl (by omega) HM.out).mono ?_
    rintro e w2 ⟨rfl, hb2⟩
    have HP := Lib.hid (Q1.out.below hb2 (by omega))
    obtain ⟨b0, b1, b2, g0, g1, g2, blt⟩ := HP.out
    have HB := Lib.hid (hb.trans (hb2.mono (by omega)))
    clear hb hb2 a0 a1 a2 f0 f1 f2 alt
    go_wp2
    have P2 := ((HP.out.set0 (.int .i64 0)).set1 (.int .i64 0)).set2 (.slice none 0 0)
    have B4 := ((HB.out.setCell (p := ⟨w.heap.size + 1 + 1, 0, none⟩) (by simp; omega) (.int .i64 0)).setCell (p := ⟨w.heap.size + 1 + 1, 1, none⟩) (by simp; omega) (.int .i64 0)).setCell (p := ⟨w.heap.size + 1 + 1, 2, none⟩) (by simp; omega) (.slice none 0 0)
    obtain ⟨W4, hW4⟩ : ∃ W4, (((w2.setCell ⟨w.heap.size + 1 + 1, 0, none⟩ (.int .i64 0)).setCell ⟨w.heap.size + 1 + 1, 1, none⟩ (.int .i64 0)).setCell ⟨w.heap.size + 1 + 1, 2, none⟩ (.slice none 0 0)) = W4 := ⟨_, rfl⟩
    rw [hW4] at P2 B4 ⊢
    obtain ⟨z0, z1, z2, _, _, _, _⟩ := P2
    refine bodyPost_ret (v := matV 0 0 (.slice none 0 0)) (by simp [results, Try.results42, go_sem, z0, z1, z2]) rfl ?_
    exact ⟨rfl, B4⟩
set_option maxHeartbeats 1600000 in
theorem implFold_yes (r c : Nat) (A : Option Addr) (cap n B : Nat) (zs : List Int) (kr kc : Nat) (Ak : Option Addr) (capk nk Bk : Nat) (ks : List Int) (w : World) (hs : Sl w B A zs) (hB : B ≤ w.heap.size) (e : n = zs.length) (hn : n ≤ 1100000) (hsk : Sl w Bk Ak ks) (hBk : Bk ≤ w.heap.size) (ek : nk = ks.length) (hnk : nk ≤ 1100000) (hnc : n ≤ cap) (hcm : cap ≤ maxLen) (hnck : nk ≤ capk) (hcmk : capk ≤ maxLen) (h : OkF r c zs kr kc ks) : Calls Try.prog 42 #[matV r c (.slice A n cap), matV kr kc (.slice Ak nk capk)] w fun e w' => ∃ s, e = .returned (matV ((r - kr + 1 : Nat) : Int) ((c - kc + 1 : Nat) : Int) s) ∧ Row w' w.heap.size w'.heap.size s (foldZ kr kc r c zs ks) ∧ Below w.heap.size w w' := by
  obtain ⟨hm, hk, hkr, hkc⟩ := h
  have hr1 := hm.1
  have hc1 := hm.2.1
  have hkr1 := hk.1
  have hkc1 := hk.2.1
  have hT0 := foldTo_zero kr kc r c zs ks
  have hTF := foldTo_full kr kc r c zs ks
  have hTL := foldTo_len kr kc r c zs ks
  have hTS := foldTo_succ kr kc r c zs ks
  obtain ⟨R, hR⟩ : ∃ R : Nat, r - kr + 1 = R := ⟨_, rfl⟩
  obtain ⟨C, hC⟩ : ∃ C : Nat, c - kc + 1 = C := ⟨_, rfl⟩
  rw [hR, hC] at hT0 hTF ⊢
  simp only [hR, hC] at hTL hTS
  have hRi : (r : Int) - (kr : Int) + 1 = (R : Int) := by omega
  have hCi : (c : Int) - (kc : Int) + 1 = (C : Int) := by omega
  have hRC := side_mul (r := R) (c := C) (by omega) (by omega)
  have hRC' : R * C ≤ 25 ∧ 1 ≤ R * C := by
    have : ((R * C : Nat) : Int) = (R : Int) * (C : Int) := by simp
    omega
  have HT0 := Lib.hid hT0
  have HTF := Lib.hid hTF
  have HTL := Lib.hid hTL
  have HTS := Lib.hid hTS
  obtain ⟨T, hT⟩ : ∃ T, foldTo kr kc r c zs ks = T := ⟨_, rfl⟩
  rw [hT] at HT0 HTF HTL HTS
  have HM := Lib.hid hm
  have HKM := Lib.hid hk
  have HRC := Lib.hid (And.intro hR hC)
  have hRC2 := Lib.hid hRC'
  clear hm hk hT0 hTF hTL hTS hT hR hC hRC hRC'
  subst e
  subst ek
  obtain ⟨W, hW⟩ : ∃ W, ((w.alloc (.cells #[.int .i64 r, .int .i64 c, .slice A zs.length cap] 26)).alloc (.cells #[.int .i64 kr, .int .i64 kc, .slice Ak ks.length capk] 26)).alloc (.cells #[.int .i64 0, .int .i64 0, .slice none 0 0] 26) = W := ⟨_, rfl⟩
  obtain ⟨q0, q2, q1, hb, hws⟩ := nest3 w r c kr kc (.slice A zs.length cap) (.slice Ak ks.length capk) W hW.symm
  have HS := Lib.hid (hs.below hb hB)
  have HK := Lib.hid (hsk.below hb hBk)
  have Q0 := Lib.hid q0
  have Q1 := Lib.hid q1
  have Q2 := Lib.hid q2
  obtain ⟨a0, a1, a2, f0, f1, f2, alt⟩ := q0
  clear hs hsk q1 q2
  go_enter Try.func42, Try.ntmps42
  go_wp2_with fail
  refine (implMV_yes r c A cap _ B zs W HS.out (by omega) rfl (by omega) HM.out).mono ?_
  rintro e w2 ⟨rfl, hb2⟩
  have hs2 := hb2.size
  obtain ⟨y0, y1, y2, _, _, _, ylt⟩ := Q2.out.below hb2 (by omega)
  go_wp2_with fail
  refine (implMV_yes kr kc Ak capk _ Bk ks w2 (HK.out.below hb2 (by omega)) (by omega) rfl (by omega) HKM.out).mono ?_
  rintro e w3 ⟨rfl, hb3⟩
  have hbb : Below W.heap.size W w3 := hb2.trans (hb3.mono hs2)
  have hs3 := hbb.size
  have HQ0 := Lib.hid (Q0.out.below hbb (by omega))
  have HQ2 := Lib.hid (Q2.out.below hbb (by omega))
  have HQ1 := Lib.hid (Q1.out.below hbb (by omega))
  have HS3 := Lib.hid (HS.out.below hbb (by omega))
  have HK3 := Lib.hid (HK.out.below hbb (by omega))
  have HB := Lib.hid (hb.trans (hbb.mono (by omega)))
  clear y0 y1 y2 hb hb2 hb3 hbb a0 a1 a2 f0 f1 f2 alt
  obtain ⟨y0, y1, y2, _, _, _, ylt⟩ := HQ2.out
  obtain ⟨c0, c1, c2, _, _, _, clt⟩ := HQ0.out
  go_wp2_with fail
  refine (emptyM_any R C (R * C) w3 (by simp) (by have := hRC2.out; omega)).mono ?_
  rintro e w4 ⟨s4, rfl, hr4, hb4⟩
  have HL3 := Lib.hid (show (List.replicate (R * C) (0 : Int)).length = R * C by simp)
  obtain ⟨A3, c3, hs3v, hnc3, hcm3, _⟩ := hr4.form
  rw [HL3.out] at hs3v hnc3
  subst hs3v
  obtain ⟨N, hN⟩ : ∃ N, R * C = N := ⟨_, rfl⟩
  have HN := Lib.hid hN
  rw [hN] at hr4 hRC2 hnc3 HT0 HTF HTL
  rw [hN]
  clear hN HL3
  have hs4 := hb4.size
  have k5 := Cell3.new w4 (.int .i64 R) (.int .i64 C) (.slice A3 N c3) 26
  obtain ⟨V, hV⟩ : ∃ V, w4.alloc (.cells #[.int .i64 R, .int .i64 C, .slice A3 N c3] 26) = V := ⟨_, rfl⟩
  rw [hV] at k5
  have hsv : V.heap.size = w4.heap.size + 1 := by rw [← hV]; simp
  have hbv : Below w4.heap.size w4 V := hV ▸ (Below.refl _ _).alloc (Nat.le_refl _) _
  have hb34 : Below w3.heap.size w3 V := hb4.trans (hbv.mono (by omega))
  have HV0 := Lib.hid (HQ0.out.below hb34 (by omega))
  have HV1 := Lib.hid (HQ1.out.below hb34 (by omega))
  have HV2 := Lib.hid (HQ2.out.below hb34 (by omega))
  have HBV := Lib.hid (HB.out.trans (hb34.mono (by omega)))
  have HRV := Lib.hid (hr4.below hbv (Nat.le_refl _))
  have HSV := Lib.hid (HS3.out.below hb34 (by omega))
  have HKV := Lib.hid (HK3.out.below hb34 (by omega))
  have K5 := Lib.hid k5
  clear hr4 hb4 hbv hb34 HQ0 HQ1 HQ2 HB HS3 HK3 c0 c1 c2 y0 y1 y2
  obtain ⟨v0, v1, v2, p0, p1, p2, vlt⟩ := k5
  go_wp2
  clear v0 v1 v2 p0 p1 p2
  have hws' : w.heap.size + 3 ≤ w3.heap.size := by omega
  go_loopw [46] (fun i wr => ∃ k : Nat, k ≤ R ∧ i = .int .i64 k ∧ Row wr w3.heap.size w4.heap.size (.slice A3 N c3) (T (k * C)) ∧ Below w.heap.size w wr ∧ Cell3 wr w4.heap.size (.int .i64 R) (.int .i64 C) (.slice A3 N c3) ∧ Cell3 wr (w.heap.size + 1 + 1) (.int .i64 0) (.int .i64 0) (.slice none 0 0) ∧ Cell3 wr w.heap.size (.int .i64 r) (.int .i64 c) (.slice A zs.length cap) ∧ Cell3 wr (w.heap.size + 1) (.int .i64 kr) (.int .i64 kc) (.slice Ak ks.length capk) ∧ Sl wr B A zs ∧ Sl wr Bk Ak ks ∧ V.heap.size ≤ wr.heap.size) (fun i _ => R - (intOf i).toNat)
  case atStart => exact ⟨0, Nat.zero_le _, rfl, by rw [Nat.zero_mul, HT0.out]; exact HRV.out, HBV.out, K5.out, HV1.out, HV0.out, HV2.out, HSV.out, HKV.out, Nat.le_refl _⟩
  case round =>
    obtain ⟨k, hk, rfl, hrow, hbel, hc5c, hc1c, hc0c, hc2c, hsl, hslk, hsz⟩ := hrel
    by_cases hlt : k < R
    · have HR := Lib.hid hrow
      have HBl := Lib.hid hbel
      have H5 := Lib.hid hc5c
      have H1 := Lib.hid hc1c
      have H0 := Lib.hid hc0c
      have H2 := Lib.hid hc2c
      have HSl := Lib.hid hsl
      have HKl := Lib.hid hslk
      obtain ⟨v0, v1, v2, _, _, _, vlt'⟩ := hc5c
      clear hrow hbel hc1c hc0c hc2c hsl hslk HRV HBV K5 HV0 HV1 HV2 HSV HKV
      have hki : (k : Int) < (R : Int) := by omega
      go_wp2
      obtain ⟨wo, hwo⟩ : ∃ wo, wo = wr := ⟨_, rfl⟩
      go_loopw [51] (fun i wr => ∃ j : Nat, j ≤ C ∧ i = .int .i64 j ∧ Row wr w3.heap.size w4.heap.size (.slice A3 N c3) (T (k * C + j)) ∧ Below w.heap.size w wr ∧ Cell3 wr w4.heap.size (.int .i64 R) (.int .i64 C) (.slice A3 N c3) ∧ Cell3 wr (w.heap.size + 1 + 1) (.int .i64 0) (.int .i64 0) (.slice none 0 0) ∧ Cell3 wr w.heap.size (.int .i64 r) (.int .i64 c) (.slice A zs.length cap) ∧ Cell3 wr (w.heap.size + 1) (.int .i64 kr) (.int .i64 kc) (.slice Ak ks.length capk) ∧ Sl wr B A zs ∧ Sl wr Bk Ak ks ∧ V.heap.size ≤ wr.heap.size) (fun i _ => C - (intOf i).toNat)
      case atStart => exact ⟨0, Nat.zero_le _, rfl, HR.out, HBl.out, H5.out, H1.out, H0.out, H2.out, HSl.out, HKl.out, hsz⟩
      case round =>
        clear HR HBl H5 H1 H0 H2 HSl HKl v0 v1 v2 vlt' hwo
        clear wo
        obtain ⟨j, hj, rfl, hrow, hbel, hc5c, hc1c, hc0c, hc2c, hsl, hslk, hsz⟩ := hrel
        by_cases hjlt : j < C
        · have hidx : k * C + j < N := by rw [← HN.out]; exact ix_lt hlt hjlt
          have hTk := HTS.out (k * C + j) k j rfl hjlt
          obtain ⟨g, hg, hg1, hg2, hcg, hfz⟩ := hrow.cell_ (j := k * C + j) (by rw [HTL.out]; exact hidx)
          subst hg
          obtain ⟨b, off, hA, hbB, _⟩ := hsl.at_ (k := 0) (by have := HM.out.len; omega)
          subst hA
          obtain ⟨bk, offk, hAk, hbBk, _⟩ := hslk.at_ (k := 0) (by have := HKM.out.len; omega)
          subst hAk
          have hkR : k + kr ≤ r := by have := HRC.out.1; omega
          have hjC : j + kc ≤ c := by have := HRC.out.2; omega
          have hki2 : (k : Int) * (C : Int) = ((k * C : Nat) : Int) := by simp
          obtain ⟨L, hL⟩ : ∃ L, k * C = L := ⟨_, rfl⟩
          rw [hL] at hki2 hidx hTk hrow hcg hfz
          obtain ⟨L1, hL1⟩ : ∃ L1, L + j = L1 := ⟨_, rfl⟩
          rw [hL1] at hidx hTk hrow hcg hfz
          have hLw : IntKind.i64.wrap (L : Int) = (L : Int) := wrap_in (by omega) (by have := hRC2.out; omega)
          have hLw2 : IntKind.i64.wrap ((L : Int) + (j : Int)) = (L1 : Int) := by rw [wrap_in (by omega) (by have := hRC2.out; omega)]; omega
          have hLN : (L1 : Int) < (N : Int) := by omega
          have hcall := Lib.hid fun wx hsx hsy h1 h2 => window_any r c kr kc k j b off cap zs.length B zs bk offk capk ks.length Bk ks wx hsx h1 rfl hsy h2 rfl hnc hcm hnck hcmk HM.out HKM.out hkR hjC
          obtain ⟨x, hx⟩ : ∃ x, foldS kr kc c zs ks k j (kr * kc) % 4096 = x := ⟨_, rfl⟩
          rw [hx] at hcall hTk
          have hD : Drew wr wr.drew := ⟨1, rfl⟩
          have hRow := Lib.hid (hD.row hrow)
          have hSl := Lib.hid (hD.sl hsl)
          have hSk := Lib.hid (hD.sl hslk)
          have hBel := Lib.hid (hbel.trans (hD.below _))
          have hC5 := Lib.hid (hc5c.grown (hD.grown none) (by simp))
          have hC1 := Lib.hid (hc1c.grown (hD.grown none) (by simp))
          have hC0 := Lib.hid (hc0c.grown (hD.grown none) (by simp))
          have hC2 := Lib.hid (hc2c.grown (hD.grown none) (by simp))
          have hSz : V.heap.size ≤ wr.drew.heap.size := hsz
          obtain ⟨y0, y1, y2, _, _, _, ylt⟩ := hC5.out
          obtain ⟨x0, x1, x2, _, _, _, xlt⟩ := hC0.out
          obtain ⟨k0, k1, k2, _, _, _, klt⟩ := hC2.out
          have HTk := Lib.hid (And.intro hTk (And.intro hL hL1))
          have hji : (j : Int) < (C : Int) := by omega
          have hcg' := hD.grown none |>.cell hcg (by simp)
          have hfz' : wr.drew.frozen? ⟨g, L1, none⟩ = false := hfz
          clear hrow hsl hslk hbel hc5c hc1c hc0c hc2c hx hTk hL hL1 hD
          go_wp2
          go_region_held3 (fun w' => (w'.cell? ⟨w.heap.size, 0, none⟩ = some (.int .i64 r) ∧ w'.cell? ⟨w.heap.size, 1, none⟩ = some (.int .i64 c) ∧ w'.cell? ⟨w.heap.size, 2, none⟩ = some (.slice (some ⟨b, off, none⟩) zs.length cap)) ∧ (w'.cell? ⟨w.heap.size + 1, 0, none⟩ = some (.int .i64 kr) ∧ w'.cell? ⟨w.heap.size + 1, 1, none⟩ = some (.int .i64 kc) ∧ w'.cell? ⟨w.heap.size + 1, 2, none⟩ = some (.slice (some ⟨bk, offk, none⟩) ks.length capk)) ∧ w'.cell? ⟨w4.heap.size, 1, none⟩ = some (.int .i64 C) ∧ w'.cell? ⟨w4.heap.size, 2, none⟩ = some (.slice (some ⟨g, 0, none⟩) N c3))
            (first | exact ⟨⟨x0, x1, x2⟩, ⟨k0, k1, k2⟩, y1, y2⟩ | exact ⟨⟨m0, m1, m2⟩, ⟨n0, n1, n2⟩, o1, o2⟩ | exact ⟨⟨r0, r1, r2⟩, ⟨t0, t1, t2⟩, s1, s2⟩)
            (first | (go_simp; go_at_call 79; refine (hcall.out _ hSl.out hSk.out (show B ≤ wr.heap.size by omega) (show Bk ≤ wr.heap.size by omega)).mono ?_; rintro e w5 ⟨rfl, hb5⟩; have e5 := hC5.out.below hb5 (show _ < wr.heap.size by omega); have e0 := hC0.out.below hb5 (show _ < wr.heap.size by omega); have e2 := hC2.out.below hb5 (show _ < wr.heap.size by omega); have eR := hRow.out.below hb5 (show _ ≤ wr.heap.size by omega); have hcg5 := (hb5.cell (p := ⟨g, L1, none⟩) (show g < wr.heap.size by omega)).trans hcg'; have hfz5 := (World.frozen?_of_block (a := ⟨g, L1, none⟩) (hb5.block g (show g < wr.heap.size by omega))).trans hfz'; obtain ⟨m0, m1, m2, _, _, _, _⟩ := id e0; obtain ⟨n0, n1, n2, _, _, _, _⟩ := id e2; obtain ⟨o0, o1, o2, _, _, _, _⟩ := id e5; obtain ⟨r0, r1, r2, _, _, _, _⟩ := e0.far (a := ⟨g, L1, none⟩) (show w.heap.size ≠ g by omega) (.int .i64 x); obtain ⟨t0, t1, t2, _, _, _, _⟩ := e2.far (a := ⟨g, L1, none⟩) (show w.heap.size + 1 ≠ g by omega) (.int .i64 x); obtain ⟨s0, s1, s2, _, _, _, _⟩ := e5.far (a := ⟨g, L1, none⟩) (show w4.heap.size ≠ g by omega) (.int .i64 x)))
          have hsz5 : wr.heap.size ≤ w5.heap.size := hb5.size
          have JR := Lib.hid (eR.stored L1 x).1
          have J5 := Lib.hid (e5.far (a := ⟨g, L1, none⟩) (show w4.heap.size ≠ g by omega) (.int .i64 x))
          have J0 := Lib.hid (e0.far (a := ⟨g, L1, none⟩) (show w.heap.size ≠ g by omega) (.int .i64 x))
          have J2 := Lib.hid (e2.far (a := ⟨g, L1, none⟩) (show w.heap.size + 1 ≠ g by omega) (.int .i64 x))
          have J1 := Lib.hid ((hC1.out.below hb5 (show _ < wr.heap.size by omega)).far (a := ⟨g, L1, none⟩) (show w.heap.size + 1 + 1 ≠ g by omega) (.int .i64 x))
          have JS := Lib.hid ((hSl.out.below hb5 (show _ ≤ wr.heap.size by omega)).keep (w' := w5.setCell ⟨g, L1, none⟩ (.int .i64 x)) (fun p hp => World.cell?_setCell_other _ _ _ _ (fun e => by rw [← e] at hp; exact absurd (show g < B from hp) (by omega))))
          have JK := Lib.hid ((hSk.out.below hb5 (show _ ≤ wr.heap.size by omega)).keep (w' := w5.setCell ⟨g, L1, none⟩ (.int .i64 x)) (fun p hp => World.cell?_setCell_other _ _ _ _ (fun e => by rw [← e] at hp; exact absurd (show g < Bk from hp) (by omega))))
          have JB := Lib.hid ((hBel.out.trans (hb5.mono (show _ ≤ wr.heap.size by omega))).setCell (p := ⟨g, L1, none⟩) (show w.heap.size ≤ g by omega) (.int .i64 x))
          clear e5 e0 e2 eR hb5 hcg5 hfz5 m0 m1 m2 n0 n1 n2 o0 o1 o2 r0 r1 r2 t0 t1 t2 s0 s1 s2 x0 x1 x2 y0 y1 y2 k0 k1 k2
          go_wp2
          go_roundw
          case rel => exact ⟨j + 1, by omega, by go_num, by rw [← Nat.add_assoc, HTk.out.2.1, HTk.out.2.2, ← HTk.out.1]; exact JR.out, JB.out, J5.out, J1.out, J0.out, J2.out, JS.out, JK.out, by simp; omega⟩
          case measure => simp [intOf]; omega
        · have e : j = C := by omega
          subst e
          have hNk : (k + 1) * j = k * j + j := by rw [Nat.add_mul, Nat.one_mul]
          have HR := Lib.hid hrow
          have HBl := Lib.hid hbel
          have H5 := Lib.hid hc5c
          have H1 := Lib.hid hc1c
          have H0 := Lib.hid hc0c
          have H2 := Lib.hid hc2c
          have HSl := Lib.hid hsl
          have HKl := Lib.hid hslk
          have HNk := Lib.hid hNk
          clear hrow hbel hc5c hc1c hc0c hc2c hsl hslk hNk
          go_wp2
          go_roundw
          case rel => exact ⟨k + 1, by omega, by go_num, by rw [HNk.out]; exact HR.out, HBl.out, H5.out, H1.out, H0.out, H2.out, HSl.out, HKl.out, hsz⟩
          case measure => simp [intOf]; omega
    · have e : k = R := by omega
      rw [e, HN.out, HTF.out] at hrow
      have hE := Lib.hid e
      have HR := Lib.hid hrow
      have HB5 := Lib.hid hbel
      have HC1 := Lib.hid hc1c
      obtain ⟨v0, v1, v2, p0, p1, p2, vlt⟩ := hc5c
      obtain ⟨b0, b1, b2, g0, g1, g2, blt⟩ := hc1c
      clear hrow hbel
      subst e
      go_wp2
      have P2 := ((HC1.out.set0 (.int .i64 k)).set1 (.int .i64 C)).set2 (.slice A3 N c3)
      have R2 := HR.out.grown (set_grown _ (w.heap.size + 1 + 1) 0 (.int .i64 k)) (fun g e => by cases e; left; omega)
      have R3 := R2.grown (set_grown _ (w.heap.size + 1 + 1) 1 (.int .i64 C)) (fun g e => by cases e; left; omega)
      have R4 := R3.grown (set_grown _ (w.heap.size + 1 + 1) 2 (.slice A3 N c3)) (fun g e => by cases e; left; omega)
      have B4 := ((HB5.out.setCell (p := ⟨w.heap.size + 1 + 1, 0, none⟩) (by simp; omega) (.int .i64 k)).setCell (p := ⟨w.heap.size + 1 + 1, 1, none⟩) (by simp; omega) (.int .i64 C)).setCell (p := ⟨w.heap.size + 1 + 1, 2, none⟩) (by simp; omega) (.slice A3 N c3)
      have S4 : ((((wr.setCell ⟨w.heap.size + 1 + 1, 0, none⟩ (.int .i64 k)).setCell ⟨w.heap.size + 1 + 1, 1, none⟩ (.int .i64 C)).setCell ⟨w.heap.size + 1 + 1, 2, none⟩ (.slice A3 N c3)).heap.size) = wr.heap.size := by simp
      obtain ⟨W4, hW4⟩ : ∃ W4, (((wr.setCell ⟨w.heap.size + 1 + 1, 0, none⟩ (.int .i64 k)).setCell ⟨w.heap.size + 1 + 1, 1, none⟩ (.int .i64 C)).setCell ⟨w.heap.size + 1 + 1, 2, none⟩ (.slice A3 N c3)) = W4 := ⟨_, rfl⟩
      rw [hW4] at P2 R4 B4 S4 ⊢
      obtain ⟨z0, z1, z2, _, _, _, _⟩ := P2
      refine bodyPost_ret (v := matV k C (.slice A3 N c3)) (by simp [results, Try.results42, go_sem, z0, z1, z2]) rfl ?_
      exact ⟨_, rfl, R4.wider (by omega) (by omega), B4⟩
end Go.Proofs.Ytakjmdjjpalaiaa
