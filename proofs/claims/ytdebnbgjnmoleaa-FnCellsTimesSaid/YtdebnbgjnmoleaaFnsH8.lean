/- Contracts: products of matrices, the program's: valid ones. -/
import Derived.Test.YtdebnbgjnmoleaaFnsH6
namespace Go.Proofs.Ytdebnbgjnmoleaa
open Go.RowKit

theorem valueAt_any (r c k : Int) (u j I b off n cap : Nat) (y : Int) (w : World) (hu : k * c = (u : Int)) (hI : u + j = I) (hIn : I < n) (hn : n ≤ 1000000000) (hy : w.cell? ⟨b, off + I, none⟩ = some (.int .i64 y)) :
    Calls Try.prog 64 #[matV r c (.slice (some ⟨b, off, none⟩) n cap), .int .i64 k, .int .i64 j] w fun e w' => e = .returned (.int .i64 y) ∧ Below w.heap.size w w' := by
  have hb : Below w.heap.size w (w.alloc (.cells #[.int .i64 r, .int .i64 c, .slice (some ⟨b, off, none⟩) n cap] 28)) := (Below.refl _ _).alloc (Nat.le_refl _) _
  have hlt := World.block_lt_of_cell? _ _ hy
  have hy2 := (hb.cell (p := ⟨b, off + I, none⟩) hlt).trans hy
  have K := Cell3.new w (.int .i64 r) (.int .i64 c) (.slice (some ⟨b, off, none⟩) n cap) 28
  have hwu : IntKind.i64.wrap (u : Int) = (u : Int) := by rw [IntKind.wrap_i64]; omega
  have hwi : IntKind.i64.wrap ((u : Int) + (j : Int)) = (I : Int) := by rw [IntKind.wrap_i64]; omega
  have hIi : (I : Int) < (n : Int) := by omega
  obtain ⟨W, hW⟩ : ∃ W, w.alloc (.cells #[.int .i64 r, .int .i64 c, .slice (some ⟨b, off, none⟩) n cap] 28) = W := ⟨_, rfl⟩
  rw [hW] at hb hy2 K
  obtain ⟨k0, k1, k2, _, _, _, _⟩ := K
  have HB := Lib.hid hb
  clear hb hy hI
  go_enter Try.func64, Try.ntmps64
  go_wp2
  go_ret
  exact ⟨rfl, HB.out⟩
/-- The product's values, the first p of them. -/
def mulTo (R N C : Nat) (us bs : List Int) : Nat → List Int
  | 0 => List.replicate (R * C) 0
  | p + 1 => (mulTo R N C us bs p).set p (dot us bs N C (p / C) (p % C) N % 4096)
theorem mulTo_len (R N C : Nat) (us bs : List Int) (p : Nat) : (mulTo R N C us bs p).length = R * C := by
  induction p with
  | zero => simp [mulTo]
  | succ p ih => unfold mulTo; rw [List.length_set, ih]
theorem mulTo_at (R N C : Nat) (us bs : List Int) (k p : Nat) (hp : p < R * C) : (mulTo R N C us bs k).getD p 0 = if p < k then dot us bs N C (p / C) (p % C) N % 4096 else 0 := by
  induction k with
  | zero => unfold mulTo; rw [getD_rep, if_neg (by omega)]
  | succ k ih =>
    unfold mulTo
    rw [getD_set, mulTo_len]
    by_cases e : k = p
    · subst e
      rw [if_pos ⟨rfl, hp⟩, if_pos (by omega)]
    · rw [if_neg (fun h => e h.1), ih]
      by_cases h : p < k
      · rw [if_pos h, if_pos (by omega)]
      · rw [if_neg h, if_neg (by omega)]
theorem mulTo_full (R N C : Nat) (us bs : List Int) : mulTo R N C us bs (R * C) = mulZ R N C us bs := by
  apply ext_getD
  · rw [mulTo_len, mulZ_len]
  · intro p hp
    rw [mulTo_len] at hp
    rw [mulTo_at _ _ _ _ _ _ _ hp, if_pos hp, mulZ_at _ _ _ _ _ _ hp]
theorem dot_rng {us bs : List Int} {N C a b : Nat} (ha : ∀ p, 0 ≤ us.getD p 0 ∧ us.getD p 0 ≤ 4095) (hb : ∀ p, 0 ≤ bs.getD p 0 ∧ bs.getD p 0 ≤ 4095) (T : Nat) : 0 ≤ dot us bs N C a b T ∧ dot us bs N C a b T ≤ T * 16769025 := by
  induction T with
  | zero => simp [dot]
  | succ T ih =>
    unfold dot
    have := mul_rngT (ha (a * N + T)) (hb (T * C + b))
    simp only [Int.natCast_add, Int.natCast_one, Int.add_mul, Int.one_mul]
    omega
theorem okR_all {zs : List Int} (h : okR zs zs.length) (p : Nat) : 0 ≤ zs.getD p 0 ∧ zs.getD p 0 ≤ 4095 := by
  rcases Nat.lt_or_ge p zs.length with h1 | h1
  · exact h p h1
  · have : zs.getD p 0 = 0 := by rw [List.getD_eq_getElem?_getD, List.getElem?_eq_none h1]; rfl
    rw [this]; omega
theorem nestU (w : World) (r c r2 c2 : Int) (s s2 : Value) : ∀ W, W = ((w.alloc (.cells #[.int .i64 r, .int .i64 c, s] 28)).alloc (.cells #[.int .i64 r2, .int .i64 c2, s2] 28)).alloc (.cells #[.int .i64 0, .int .i64 0, .slice none 0 0] 28) →
    Cell3 W w.heap.size (.int .i64 r) (.int .i64 c) s ∧ Cell3 W (w.heap.size + 1) (.int .i64 r2) (.int .i64 c2) s2 ∧ Cell3 W (w.heap.size + 1 + 1) (.int .i64 0) (.int .i64 0) (.slice none 0 0) ∧ Below w.heap.size w W ∧ W.heap.size = w.heap.size + 3 := by
  rintro W rfl
  have a := Cell3.new w (.int .i64 r) (.int .i64 c) s 28
  have b := Cell3.new (w.alloc (.cells #[.int .i64 r, .int .i64 c, s] 28)) (.int .i64 r2) (.int .i64 c2) s2 28
  have d := Cell3.new ((w.alloc (.cells #[.int .i64 r, .int .i64 c, s] 28)).alloc (.cells #[.int .i64 r2, .int .i64 c2, s2] 28)) (.int .i64 0) (.int .i64 0) (.slice none 0 0) 28
  simp only [World.size_alloc] at b d
  exact ⟨(a.alloc _).alloc _, b.alloc _, d, (((Below.refl _ _).alloc (Nat.le_refl _) _).alloc (by simp) _).alloc (by simp; omega) _, by simp⟩
set_option maxHeartbeats 3200000 in
theorem implMul_yes (R N C : Nat) (A : Option Addr) (cap na B : Nat) (us : List Int) (A2 : Option Addr) (cap2 nb B2 : Nat) (bs : List Int) (w : World) (hs : Sl w B A us) (hB : B ≤ w.heap.size) (ea : na = us.length) (hs2 : Sl w B2 A2 bs) (hB2 : B2 ≤ w.heap.size) (eb : nb = bs.length)
    (hm : OkM R N us) (hm2 : OkM N C bs) (hnc : na ≤ cap) (hcm : cap ≤ maxLen) :
    Calls Try.prog 34 #[matV R N (.slice A na cap), matV N C (.slice A2 nb cap2)] w fun e w' => ∃ s, e = .returned (matV R C s) ∧ Row w' w.heap.size w'.heap.size s (mulZ R N C us bs) ∧ Below w.heap.size w w' := by
  subst ea
  subst eb
  unfold maxLen at hcm
  have hla := hm.len
  have hlb := hm2.len
  have h1 := hm.1
  have h2 := hm.2.1
  have h3 := hm2.2.1
  have HLA := Lib.hid hm.2.2.1
  have HLB := Lib.hid hm2.2.2.1
  have HA := Lib.hid (okR_all hm.2.2.2)
  have HBS := Lib.hid (okR_all hm2.2.2.2)
  have HM := Lib.hid hm
  have HM2 := Lib.hid hm2
  clear hm hm2
  have hRC : 1 ≤ R * C ∧ R * C ≤ 25 := by
    have := side_mul h1 h3
    have e : ((R * C : Nat) : Int) = (R : Int) * (C : Int) := by simp
    omega
  have HN : Hid (((R * C : Nat) : Int) = (R : Int) * (C : Int)) := by show _ = _; simp
  have HTS : Hid (∀ p, mulTo R N C us bs (p + 1) = (mulTo R N C us bs p).set p (dot us bs N C (p / C) (p % C) N % 4096)) := fun _ => rfl
  have HTL : Hid (∀ p, (mulTo R N C us bs p).length = R * C) := mulTo_len R N C us bs
  have HTF : Hid (mulTo R N C us bs (R * C) = mulZ R N C us bs) := mulTo_full R N C us bs
  have HT0 : Hid (mulTo R N C us bs 0 = List.replicate (R * C) 0) := rfl
  obtain ⟨T, hT⟩ : ∃ T, mulTo R N C us bs = T := ⟨_, rfl⟩
  obtain ⟨n, hn⟩ : ∃ n, R * C = n := ⟨_, rfl⟩
  rw [hT] at HTS HTL HTF HT0
  rw [hn] at hRC HN HTL HTF HT0
  have HRCN := Lib.hid hn
  clear hT hn
  obtain ⟨W, hW⟩ : ∃ W, ((w.alloc (.cells #[.int .i64 R, .int .i64 N, .slice A us.length cap] 28)).alloc (.cells #[.int .i64 N, .int .i64 C, .slice A2 bs.length cap2] 28)).alloc (.cells #[.int .i64 0, .int .i64 0, .slice none 0 0] 28) = W := ⟨_, rfl⟩
  obtain ⟨q0, q1, q2, hb, hws⟩ := nestU w R N N C (.slice A us.length cap) (.slice A2 bs.length cap2) W hW.symm
  have HS := Lib.hid (hs.below hb hB)
  have HK := Lib.hid (hs2.below hb hB2)
  have Q0 := Lib.hid q0
  have Q1 := Lib.hid q1
  have Q2 := Lib.hid q2
  have HB := Lib.hid hb
  obtain ⟨a0, a1, a2, f0, f1, f2, alt⟩ := q0
  clear hs hs2 q1 q2 hb
  go_enter Try.func34, Try.ntmps34
  go_wp2_with fail
  refine (implMV_yes R N A cap _ B us W HS.out (by omega) rfl (by omega) HM.out).mono ?_
  rintro e w2 ⟨rfl, hb2⟩
  have hs2 := hb2.size
  have P1 := Lib.hid (Q1.out.below hb2 (by omega))
  clear a0 a1 a2 f0 f1 f2 alt
  obtain ⟨y0, y1, y2, _, _, _, ylt⟩ := P1.out
  go_wp2_with fail
  refine (implMV_yes N C A2 cap2 _ B2 bs w2 (HK.out.below hb2 (by omega)) (by omega) rfl (by omega) HM2.out).mono ?_
  rintro e w3 ⟨rfl, hb3⟩
  have hb23 := hb2.trans (hb3.mono hs2)
  have hs3 := hb23.size
  clear y0 y1 y2 ylt P1 hb2 hb3
  have HQ0 := Lib.hid (Q0.out.below hb23 (by omega))
  have HQ1 := Lib.hid (Q1.out.below hb23 (by omega))
  have HQ2 := Lib.hid (Q2.out.below hb23 (by omega))
  have HS3 := Lib.hid (HS.out.below hb23 (by omega))
  have HK3 := Lib.hid (HK.out.below hb23 (by omega))
  have HB3 := Lib.hid (HB.out.trans (hb23.mono (by omega)))
  clear hb23 Q0 Q1 Q2 HS HK HB
  obtain ⟨a0, a1, a2, _, _, _, alt⟩ := HQ0.out
  obtain ⟨y0, y1, y2, _, _, _, ylt⟩ := HQ1.out
  go_wp2_with fail
  refine (emptyM_any R C n w3 HN.out (by omega)).mono ?_
  rintro e w4 ⟨s4, rfl, hr4, hb4⟩
  obtain ⟨A4, c4, hs4v, hnc4, hcm4, _⟩ := hr4.form
  unfold maxLen at hcm4
  rw [List.length_replicate] at hs4v hnc4
  subst hs4v
  have hs4 := hb4.size
  have k5 := Cell3.new w4 (.int .i64 R) (.int .i64 C) (.slice A4 n c4) 28
  obtain ⟨V, hV⟩ : ∃ V, w4.alloc (.cells #[.int .i64 R, .int .i64 C, .slice A4 n c4] 28) = V := ⟨_, rfl⟩
  rw [hV] at k5
  have hsv : V.heap.size = w4.heap.size + 1 := by rw [← hV]; simp
  have hbv : Below w4.heap.size w4 V := hV ▸ (Below.refl _ _).alloc (Nat.le_refl _) _
  have hb34 : Below w3.heap.size w3 V := hb4.trans (hbv.mono (by omega))
  have HV0 := Lib.hid (HQ0.out.below hb34 (by omega))
  have HV1 := Lib.hid (HQ1.out.below hb34 (by omega))
  have HV2 := Lib.hid (HQ2.out.below hb34 (by omega))
  have HBV := Lib.hid (HB3.out.trans (hb34.mono (by omega)))
  have HRV := Lib.hid (hr4.below hbv (Nat.le_refl _))
  have HSV := Lib.hid (HS3.out.below hb34 (by omega))
  have HKV := Lib.hid (HK3.out.below hb34 (by omega))
  have K5 := Lib.hid k5
  clear hr4 hb4 hbv hb34 HQ0 HQ1 HQ2 HB3 HS3 HK3 k5 a0 a1 a2 alt y0 y1 y2 ylt
  have hws' : w.heap.size + 3 ≤ w3.heap.size := by omega
  clear hws
  obtain ⟨a0, a1, a2, _, _, _, alt⟩ := HV0.out
  go_wp2
  clear a0 a1 a2 alt
  go_loopw [35] (fun i wr => ∃ k : Nat, k ≤ R ∧ i = .int .i64 k ∧ Row wr w3.heap.size w4.heap.size (.slice A4 n c4) (T (k * C)) ∧ Below w.heap.size w wr ∧ Cell3 wr w4.heap.size (.int .i64 R) (.int .i64 C) (.slice A4 n c4) ∧ Cell3 wr (w.heap.size + 1 + 1) (.int .i64 0) (.int .i64 0) (.slice none 0 0) ∧ Cell3 wr (w.heap.size + 1) (.int .i64 N) (.int .i64 C) (.slice A2 bs.length cap2) ∧ Cell3 wr w.heap.size (.int .i64 R) (.int .i64 N) (.slice A us.length cap) ∧ Sl wr B A us ∧ Sl wr B2 A2 bs ∧ V.heap.size ≤ wr.heap.size) (fun i _ => R - (intOf i).toNat)
  case atStart => exact ⟨0, Nat.zero_le _, rfl, by rw [Nat.zero_mul, HT0.out]; exact HRV.out, HBV.out, K5.out, HV2.out, HV1.out, HV0.out, HSV.out, HKV.out, Nat.le_refl _⟩
  case round =>
    clear HRV HBV K5 HV0 HV1 HV2 HSV HKV
    obtain ⟨k, hk, rfl, hrow, hbel, hc5c, hc2c, hc1c, hc0c, hsl, hslk, hsz⟩ := hrel
    by_cases hlt : k < R
    · have hkN : k * N + N ≤ us.length := by
        have e1 : (k + 1) * N ≤ R * N := Nat.mul_le_mul_right _ (by omega)
        rw [Nat.add_mul, Nat.one_mul] at e1
        have e2 := HLA.out
        have e3 : ((R * N : Nat) : Int) = (R : Int) * (N : Int) := by simp
        omega
      have hkNi : (k : Int) * (N : Int) = ((k * N : Nat) : Int) := by simp
      have hkC : k * C + C ≤ n := by
        have e1 : (k + 1) * C ≤ R * C := Nat.mul_le_mul_right _ (by omega)
        rw [Nat.add_mul, Nat.one_mul] at e1
        have := HRCN.out
        omega
      have hkCi : (k : Int) * (C : Int) = ((k * C : Nat) : Int) := by simp
      have HKC1 := Lib.hid (show (k + 1) * C = k * C + C by rw [Nat.add_mul, Nat.one_mul])
      have HDV := Lib.hid fun j (hj : j < C) => (show (k * C + j) / C = k ∧ (k * C + j) % C = j from ⟨by rw [Nat.mul_comm, Nat.mul_add_div (by omega), Nat.div_eq_of_lt hj, Nat.add_zero], by rw [Nat.mul_comm, Nat.mul_add_mod, Nat.mod_eq_of_lt hj]⟩)
      have HTS1 := Lib.hid fun j (hj : j < C) => (show T (k * C + j + 1) = (T (k * C + j)).set (k * C + j) (dot us bs N C k j N % 4096) by rw [HTS.out, (HDV.out j hj).1, (HDV.out j hj).2])
      have HDS := Lib.hid fun j m => (show dot us bs N C k j (m + 1) = dot us bs N C k j m + us.getD (k * N + m) 0 * bs.getD (m * C + j) 0 from rfl)
      obtain ⟨L1, hL1⟩ : ∃ L, k * N = L := ⟨_, rfl⟩
      obtain ⟨L2, hL2⟩ : ∃ L, k * C = L := ⟨_, rfl⟩
      rw [hL1] at hkN hkNi HDS
      rw [hL2] at hkC hkCi HKC1 HTS1 hrow
      clear HDV hL1 hL2
      obtain ⟨ba, offa, hA, hba, _⟩ := hsl.at_ (k := 0) (by omega)
      subst hA
      obtain ⟨bb, offb, hA2, hbb, _⟩ := hslk.at_ (k := 0) (by omega)
      subst hA2
      obtain ⟨g, hg, hg1, hg2, _, _⟩ := hrow.cell_ (j := 0) (by rw [HTL.out]; omega)
      subst hg
      have hcR := Lib.hid fun wx => rowOf_lenF R N k ba offa us.length cap L1 N wx hkNi rfl (by omega) hkN hnc (by omega) (by omega)
      have hki : (k : Int) < (R : Int) := by omega
      have JB := Lib.hid hbel
      have JR := Lib.hid hrow
      have J5 := Lib.hid hc5c
      have J2 := Lib.hid hc2c
      have J1 := Lib.hid hc1c
      have J0 := Lib.hid hc0c
      have JS := Lib.hid hsl
      have JK := Lib.hid hslk
      obtain ⟨a0, a1, a2, _, _, _, alt⟩ := hc0c
      clear hrow hbel hc5c hc2c hc1c hsl hslk
      go_wp2_with fail
      refine (hcR.out _).mono ?_
      rintro e w6 ⟨cp, rfl, hcp1, hcp2, hb6⟩
      have hz6 := hb6.size
      have LB := Lib.hid (JB.out.trans (hb6.mono (by omega)))
      have LR := Lib.hid (JR.out.below hb6 (by omega))
      have L5 := Lib.hid (J5.out.below hb6 (by omega))
      have LL2 := Lib.hid (J2.out.below hb6 (by omega))
      have LL1 := Lib.hid (J1.out.below hb6 (by omega))
      have L0 := Lib.hid (J0.out.below hb6 (by omega))
      have LS := Lib.hid (JS.out.below hb6 (by omega))
      have LK := Lib.hid (JK.out.below hb6 (by omega))
      have hsz6 : V.heap.size ≤ w6.heap.size := by omega
      clear JB JR J5 J2 J1 J0 JS JK hb6 hz6 a0 a1 a2 alt hcR
      obtain ⟨y0, y1, y2, _, _, _, ylt⟩ := LL1.out
      go_wp2
      clear y0 y1 y2 ylt
      obtain ⟨wo, rfl⟩ : ∃ wo, wo = wr := ⟨_, rfl⟩
      go_loopw [43] (fun i wq => ∃ j : Nat, j ≤ C ∧ i = .int .i64 j ∧ Row wq w3.heap.size w4.heap.size (.slice (some ⟨g, 0, none⟩) n c4) (T (L2 + j)) ∧ Below w.heap.size w wq ∧ Cell3 wq w4.heap.size (.int .i64 R) (.int .i64 C) (.slice (some ⟨g, 0, none⟩) n c4) ∧ Cell3 wq (w.heap.size + 1 + 1) (.int .i64 0) (.int .i64 0) (.slice none 0 0) ∧ Cell3 wq (w.heap.size + 1) (.int .i64 N) (.int .i64 C) (.slice (some ⟨bb, offb, none⟩) bs.length cap2) ∧ Cell3 wq w.heap.size (.int .i64 R) (.int .i64 N) (.slice (some ⟨ba, offa, none⟩) us.length cap) ∧ Sl wq B (some ⟨ba, offa, none⟩) us ∧ Sl wq B2 (some ⟨bb, offb, none⟩) bs ∧ V.heap.size ≤ wq.heap.size) (fun i _ => C - (intOf i).toNat)
      case atStart => exact ⟨0, Nat.zero_le _, rfl, LR.out, LB.out, L5.out, LL2.out, LL1.out, L0.out, LS.out, LK.out, hsz6⟩
      case round =>
        clear LR LB L5 LL2 LL1 L0 LS LK hsz6 hsz
        obtain ⟨j, hj, rfl, hrow, hbel, hc5c, hc2c, hc1c, hc0c, hsl, hslk, hsz⟩ := hrel
        have MB := Lib.hid hbel
        have MR := Lib.hid hrow
        have M5 := Lib.hid hc5c
        have M2 := Lib.hid hc2c
        have M1 := Lib.hid hc1c
        have M0 := Lib.hid hc0c
        have MS := Lib.hid hsl
        have MK := Lib.hid hslk
        clear hrow hbel hc5c hc2c hc1c hc0c hsl hslk
        by_cases hjl : j < C
        · have hTj := HTS1.out j hjl
          have HDj := Lib.hid fun m => HDS.out j m
          have HDR := Lib.hid fun m => dot_rng (a := k) (b := j) (N := N) (C := C) HA.out HBS.out m
          have HD0 : Hid (dot us bs N C k j 0 = 0) := rfl
          obtain ⟨D, hD⟩ : ∃ D, dot us bs N C k j = D := ⟨_, rfl⟩
          rw [hD] at hTj HDj HDR HD0
          have HTj := Lib.hid hTj
          clear hTj hD
          have hji : (j : Int) < (C : Int) := by omega
          go_wp2
          obtain ⟨X, rfl⟩ : ∃ X, X = wr := ⟨_, rfl⟩
          go_loopw [9, 48] (fun s i wx => ∃ m : Nat, m ≤ N ∧ i = .int .i64 m ∧ s = .int .i64 (D m) ∧ Below X.heap.size X wx) (fun _ i _ => N - (intOf i).toNat)
          case atStart => exact ⟨0, Nat.zero_le _, rfl, by rw [HD0.out], Below.refl _ _⟩
          case round =>
            obtain ⟨m, hmN, rfl, rfl, hbX⟩ := hrel
            have hsX := hbX.size
            by_cases hml : m < N
            · obtain ⟨ba', offa', hA', _, hcx⟩ := (MS.out.below hbX (by omega)).at_ (k := L1 + m) (by omega)
              injection hA' with hA'
              injection hA' with e1 e2
              subst e1 e2
              rw [← Nat.add_assoc] at hcx
              have hmC : m * C + C ≤ bs.length := by
                have e1 : (m + 1) * C ≤ N * C := Nat.mul_le_mul_right _ (by omega)
                rw [Nat.add_mul, Nat.one_mul] at e1
                have e2 := HLB.out
                have e3 : ((N * C : Nat) : Int) = (N : Int) * (C : Int) := by simp
                omega
              have hmCi : (m : Int) * (C : Int) = ((m * C : Nat) : Int) := by simp
              have hDm := HDj.out m
              have hDr := HDR.out m
              obtain ⟨u, hu⟩ : ∃ u, m * C = u := ⟨_, rfl⟩
              rw [hu] at hmC hmCi hDm
              obtain ⟨bb', offb', hA', _, hcy⟩ := (MK.out.below hbX (by omega)).at_ (k := u + j) (by omega)
              injection hA' with hA'
              injection hA' with e1 e2
              subst e1 e2
              have hxr := HA.out (L1 + m)
              have hyr := HBS.out (u + j)
              obtain ⟨x, hx⟩ : ∃ x, us.getD (L1 + m) 0 = x := ⟨_, rfl⟩
              obtain ⟨y, hy⟩ : ∃ y, bs.getD (u + j) 0 = y := ⟨_, rfl⟩
              rw [hx] at hcx hxr hDm
              rw [hy] at hcy hyr hDm
              have hcall := Lib.hid (valueAt_any N C m u j (u + j) bb offb bs.length cap2 y wr hmCi rfl (by omega) (by omega) hcy)
              have hzr := mul_rngT hxr hyr
              obtain ⟨z, hz⟩ : ∃ z, x * y = z := ⟨_, rfl⟩
              rw [hz] at hzr hDm
              obtain ⟨d, hd⟩ : ∃ d, D m = d := ⟨_, rfl⟩
              rw [hd] at hDm hDr ⊢
              have HDm := Lib.hid hDm
              have hwz : IntKind.i64.wrap z = z := by rw [IntKind.wrap_i64]; omega
              have hN5 : (m : Int) * 16769025 ≤ 100000000 := by omega
              have hwd : IntKind.i64.wrap (d + z) = d + z := by rw [IntKind.wrap_i64]; omega
              have hmi : (m : Int) < (N : Int) := by omega
              have HBX := Lib.hid hbX
              obtain ⟨y0, y1, y2, _, _, _, ylt⟩ := M1.out.below hbX (by omega)
              clear hu hx hy hd hDm hcy hbX hmCi
              go_wp2_with fail
              refine hcall.out.mono ?_
              rintro e w7 ⟨rfl, hb7⟩
              have HB7 := Lib.hid (HBX.out.trans (hb7.mono hsX))
              clear hb7 y0 y1 y2 ylt hcx
              go_wp2
              go_roundw
              case rel => exact ⟨m + 1, by omega, by go_num, by rw [HDm.out], HB7.out⟩
              case measure => simp [intOf]; omega
            · have hmE : m = N := by omega
              subst hmE
              have hDr := HDR.out m
              obtain ⟨d, hd⟩ : ∃ d, D m = d := ⟨_, rfl⟩
              have hTj := HTj.out
              rw [hd] at hDr hTj ⊢
              have hcall := Lib.hid fun wx => implRing d wx
              obtain ⟨s, hsE⟩ : ∃ s, d % 4096 = s := ⟨_, rfl⟩
              rw [hsE] at hcall hTj
              have HTJ := Lib.hid hTj
              have hL2j : L2 + j < n := by omega
              have hwa : IntKind.i64.wrap (L2 : Int) = (L2 : Int) := by rw [IntKind.wrap_i64]; omega
              have hwb : IntKind.i64.wrap ((L2 : Int) + (j : Int)) = ((L2 + j : Nat) : Int) := by rw [IntKind.wrap_i64]; omega
              obtain ⟨I, hI⟩ : ∃ I, L2 + j = I := ⟨_, rfl⟩
              have hIj := Lib.hid (show L2 + (j + 1) = I + 1 by omega)
              have hrow := MR.out.below hbX (by omega)
              rw [hI] at hL2j hwb HTJ hrow
              have hIi : (I : Int) < (n : Int) := by omega
              have hrow := hrow
              have hbel := MB.out.trans (hbX.mono (by have := MB.out.size; omega))
              have hc5c := M5.out.below hbX (by omega)
              have hc2c := M2.out.below hbX (by omega)
              have hc1c := M1.out.below hbX (by omega)
              have hc0c := M0.out.below hbX (by omega)
              have hsl := MS.out.below hbX (by omega)
              have hslk := MK.out.below hbX (by omega)
              obtain ⟨g', hg', _, _, hcg, hfg⟩ := hrow.cell_ (j := I) (by rw [HTL.out]; omega)
              injection hg' with hg'
              injection hg' with hg'
              subst hg'
              obtain ⟨x, hx⟩ : ∃ x, (T I).getD I 0 = x := ⟨_, rfl⟩
              rw [hx] at hcg
              have hDw := Lib.hid (drewT wr)
              have HROW := Lib.hid (hDw.out.row hrow)
              have HSL := Lib.hid (hDw.out.sl hsl)
              have HSK := Lib.hid (hDw.out.sl hslk)
              have HBL := Lib.hid (hbel.trans (hDw.out.below _))
              have H5 := Lib.hid (hc5c.grown (hDw.out.grown none) (by simp))
              have H2 := Lib.hid (hc2c.grown (hDw.out.grown none) (by simp))
              have H1 := Lib.hid (hc1c.grown (hDw.out.grown none) (by simp))
              have H0 := Lib.hid (hc0c.grown (hDw.out.grown none) (by simp))
              obtain ⟨v0, v1, v2, _, _, _, vlt⟩ := H5.out
              obtain ⟨u0, u1, u2, _, _, _, ult⟩ := H1.out
              have hcgd := (hDw.out.grown none).cell hcg (by simp)
              have hfgd : wr.drew.frozen? ⟨g, I, none⟩ = false := hfg
              have S := Lib.hid (HROW.out.stored I s)
              have hszx : V.heap.size ≤ wr.heap.size := by omega
              clear hrow hsl hslk hbel hc5c hc2c hc1c hc0c hcg hfg hx hsE hd hI hTj hbX
              go_upto_region 17 with fail
              go_region_law (go_simp; go_at_call 61; refine (hcall.out _).mono ?_; rintro e w' ⟨rfl, rfl⟩)
              all_goals (
                go_wp2
                go_roundw
                case rel => exact ⟨j + 1, by omega, by go_num, by rw [hIj.out, HTJ.out]; exact S.out.1, HBL.out.setCell (p := ⟨g, I, none⟩) (show w.heap.size ≤ g by omega) _, H5.out.far (a := ⟨g, I, none⟩) (show w4.heap.size ≠ g by omega) _, H2.out.far (a := ⟨g, I, none⟩) (show w.heap.size + 1 + 1 ≠ g by omega) _, H1.out.far (a := ⟨g, I, none⟩) (show w.heap.size + 1 ≠ g by omega) _, H0.out.far (a := ⟨g, I, none⟩) (show w.heap.size ≠ g by omega) _, HSL.out.keep (fun p hp => World.cell?_setCell_other _ _ _ _ (fun e => by rw [← e] at hp; exact absurd (show g < B from hp) (by omega))), HSK.out.keep (fun p hp => World.cell?_setCell_other _ _ _ _ (fun e => by rw [← e] at hp; exact absurd (show g < B2 from hp) (by omega))), by simpa using hszx⟩
                case measure => simp [intOf]; omega)
        · have hjC : j = C := by omega
          subst hjC
          go_wp2
          go_roundw
          case rel => exact ⟨k + 1, by omega, by go_num, by rw [HKC1.out]; exact MR.out, MB.out, M5.out, M2.out, M1.out, M0.out, MS.out, MK.out, hsz⟩
          case measure => simp [intOf]; omega
    · have e : k = R := by omega
      rw [e, HRCN.out, HTF.out] at hrow
      have hE := Lib.hid e
      have HR := Lib.hid hrow
      have HB5 := Lib.hid hbel
      have HC1 := Lib.hid hc2c
      obtain ⟨v0, v1, v2, p0, p1, p2, vlt⟩ := hc5c
      obtain ⟨b0, b1, b2, g0, g1, g2, blt⟩ := hc2c
      clear hrow hbel e hsl hslk hc1c hc0c
      go_wp2
      have P2 := ((HC1.out.set0 (.int .i64 R)).set1 (.int .i64 C)).set2 (.slice A4 n c4)
      have R2 := HR.out.grown (set_grown _ (w.heap.size + 1 + 1) 0 (.int .i64 R)) (fun g e => by cases e; left; omega)
      have R3 := R2.grown (set_grown _ (w.heap.size + 1 + 1) 1 (.int .i64 C)) (fun g e => by cases e; left; omega)
      have R4 := R3.grown (set_grown _ (w.heap.size + 1 + 1) 2 (.slice A4 n c4)) (fun g e => by cases e; left; omega)
      have B4 := ((HB5.out.setCell (p := ⟨w.heap.size + 1 + 1, 0, none⟩) (by simp; omega) (.int .i64 R)).setCell (p := ⟨w.heap.size + 1 + 1, 1, none⟩) (by simp; omega) (.int .i64 C)).setCell (p := ⟨w.heap.size + 1 + 1, 2, none⟩) (by simp; omega) (.slice A4 n c4)
      have S4 : ((((wr.setCell ⟨w.heap.size + 1 + 1, 0, none⟩ (.int .i64 R)).setCell ⟨w.heap.size + 1 + 1, 1, none⟩ (.int .i64 C)).setCell ⟨w.heap.size + 1 + 1, 2, none⟩ (.slice A4 n c4)).heap.size) = wr.heap.size := by simp
      obtain ⟨W4, hW4⟩ : ∃ W4, (((wr.setCell ⟨w.heap.size + 1 + 1, 0, none⟩ (.int .i64 R)).setCell ⟨w.heap.size + 1 + 1, 1, none⟩ (.int .i64 C)).setCell ⟨w.heap.size + 1 + 1, 2, none⟩ (.slice A4 n c4)) = W4 := ⟨_, rfl⟩
      rw [hW4] at P2 R4 B4 S4 ⊢
      obtain ⟨z0, z1, z2, _, _, _, _⟩ := P2
      refine bodyPost_ret (v := matV R C (.slice A4 n c4)) (by simp [results, Try.results34, go_sem, z0, z1, z2]) rfl ?_
      exact ⟨_, rfl, R4.wider (by omega) (by omega), B4⟩
theorem implMul_int (r n c : Int) (A : Option Addr) (cap na B : Nat) (us : List Int) (A2 : Option Addr) (cap2 nb B2 : Nat) (bs : List Int) (w : World) (hs : Sl w B A us) (hB : B ≤ w.heap.size) (ea : na = us.length) (hs2 : Sl w B2 A2 bs) (hB2 : B2 ≤ w.heap.size) (eb : nb = bs.length)
    (hm : OkM r n us) (hm2 : OkM n c bs) (hnc : na ≤ cap) (hcm : cap ≤ maxLen) :
    Calls Try.prog 34 #[matV r n (.slice A na cap), matV n c (.slice A2 nb cap2)] w fun e w' => ∃ s, e = .returned (matV r c s) ∧ Row w' w.heap.size w'.heap.size s (mulZ r.toNat n.toNat c.toNat us bs) ∧ Below w.heap.size w w' := by
  have h1 := hm.1
  have h2 := hm.2.1
  have h3 := hm2.2.1
  obtain ⟨R, rfl⟩ := Int.eq_ofNat_of_zero_le (show 0 ≤ r by omega)
  obtain ⟨N, rfl⟩ := Int.eq_ofNat_of_zero_le (show 0 ≤ n by omega)
  obtain ⟨C, rfl⟩ := Int.eq_ofNat_of_zero_le (show 0 ≤ c by omega)
  exact implMul_yes R N C A cap na B us A2 cap2 nb B2 bs w hs hB ea hs2 hB2 eb hm hm2 hnc hcm
end Go.Proofs.Ytdebnbgjnmoleaa
