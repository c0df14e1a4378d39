/- Contracts: products of cells, the program's. -/
import Derived.Test.YtdebnbgjnmoleaaFnsH4
import Derived.Test.YtdebnbgjnmoleaaPlainF2
import Derived.Test.YtdebnbgjnmoleaaRowLen
import Derived.Test.YtdebnbgjnmoleaaDrw
import Derived.Deep.RegionLaw
import Derived.Deep.Cut
import Derived.Deep.CutRange
import Derived.Deep.DeepCutAuto
namespace Go.Proofs.Ytdebnbgjnmoleaa
open Go.RowKit

theorem implRing (x : Int) (w : World) : Calls Try.prog 61 #[.int .i64 x] w fun e w' => e = .returned (.int .i64 (x % 4096)) ∧ w = w' := by
  go_enter Try.func61, Try.ntmps61
  go_wp2
  go_ret
  exact ⟨by simp [and4095], rfl⟩
/-- What a product of cells asks of its arguments. -/
def OkT (rows cols : Int) (ts : List Tri) (mr mc : Int) (ms : List Int) : Prop := OkC rows cols ts ∧ OkM mr mc ms ∧ mr = cols
theorem nestT (w : World) (r c : Int) (s : Value) : ∀ W, W = (w.alloc (.cells #[.int .i64 r, .int .i64 c, s] 28)).alloc (.cells #[.int .i64 0, .int .i64 0, .slice none 0 0] 28) →
    Cell3 W w.heap.size (.int .i64 r) (.int .i64 c) s ∧ Cell3 W (w.heap.size + 1) (.int .i64 0) (.int .i64 0) (.slice none 0 0) ∧ Below w.heap.size w W ∧ W.heap.size = w.heap.size + 2 := by
  rintro W rfl
  have a := Cell3.new w (.int .i64 r) (.int .i64 c) s 28
  have b := Cell3.new (w.alloc (.cells #[.int .i64 r, .int .i64 c, s] 28)) (.int .i64 0) (.int .i64 0) (.slice none 0 0) 28
  simp only [World.size_alloc] at b
  exact ⟨a.alloc _, b, ((Below.refl _ _).alloc (Nat.le_refl _) _).alloc (by simp) _, by simp⟩
theorem drewT (w : World) : Drew w w.drew := ⟨1, rfl⟩
theorem mul_rngT {x y : Int} (hx : 0 ≤ x ∧ x ≤ 4095) (hy : 0 ≤ y ∧ y ≤ 4095) : 0 ≤ x * y ∧ x * y ≤ 16769025 :=
  ⟨Int.mul_nonneg hx.1 hy.1, Int.le_trans (Int.mul_le_mul hx.2 hy.2 hy.1 (by omega)) (by omega)⟩
section
variable (rows cols : Int) (A : Option Addr) (cap B : Nat) (ts : List Tri) (mr mc : Int) (Am : Option Addr) (capm nm Bm : Nat) (ms : List Int) (w : World) (hs : Sl w B A (fl ts)) (hB : B ≤ w.heap.size) (hn : ts.length ≤ 2000000)
  (hsm : Sl w Bm Am ms) (hBm : Bm ≤ w.heap.size) (em : nm = ms.length) (hnm : nm ≤ 1100000)
include hs hB hn hsm hBm em hnm
set_option maxHeartbeats 3200000 in
theorem implCT_yes (n M : Nat) (hM : mc = (M : Int)) (hN : (n : Int) = rows * mc) (hnc : nm ≤ capm) (hcm : capm ≤ maxLen) (h : OkT rows cols ts mr mc ms) :
    Calls Try.prog 32 #[.int .i64 rows, .int .i64 cols, .slice A ts.length cap, matV mr mc (.slice Am nm capm)] w fun e w' => ∃ s, e = .returned (.tuple #[matV rows mc s, .bool true]) ∧ Row w' w.heap.size w'.heap.size s (tTo n M ms ts ts.length) ∧ Below w.heap.size w w' := by
  subst em
  subst hM
  unfold maxLen at hcm
  obtain ⟨hC, hMv, rfl⟩ := h
  have h1 := hC.1
  have h2 := hC.2.1
  have h3 := hMv.2.1
  have hMR := hMv.1
  have hml := hMv.2.2.1
  have hn25 : 1 ≤ n ∧ n ≤ 25 := by have := side_mul h1 h3; omega
  have HMV := Lib.hid hMv
  have HMS := Lib.hid hMv.2.2.2
  have HOK := Lib.hid hC.2.2
  have H := Lib.hid hC
  have HN := Lib.hid hN
  have HT0 : Hid (tTo n M ms ts 0 = List.replicate n 0) := rfl
  have HTL : Hid (∀ k, (tTo n M ms ts k).length = n) := fun k => tTo_len n M ms ts k
  have HTS : Hid (∀ k, tTo n M ms ts (k + 1) = tStep M ms (ts.getD k t0) (tTo n M ms ts k) M) := fun _ => rfl
  have HTR : Hid (∀ k p, 0 ≤ (tTo n M ms ts k).getD p 0 ∧ (tTo n M ms ts k).getD p 0 ≤ 4095) := fun k => tTo_range n M ms ts k
  obtain ⟨T, hT⟩ : ∃ T, tTo n M ms ts = T := ⟨_, rfl⟩
  rw [hT] at HT0 HTL HTS HTR ⊢
  clear hT hC hMv hN
  obtain ⟨W, hW⟩ : ∃ W, (w.alloc (.cells #[.int .i64 mr, .int .i64 M, .slice Am ms.length capm] 28)).alloc (.cells #[.int .i64 0, .int .i64 0, .slice none 0 0] 28) = W := ⟨_, rfl⟩
  obtain ⟨q0, q1, hb, hws⟩ := nestT w mr M (.slice Am ms.length capm) W hW.symm
  have HS := Lib.hid (hs.below hb hB)
  have HSM := Lib.hid (hsm.below hb hBm)
  have Q0 := Lib.hid q0
  have Q1 := Lib.hid q1
  have HB := Lib.hid hb
  clear hs hsm q1 hb
  obtain ⟨a0, a1, a2, f0, f1, f2, alt⟩ := q0
  go_enter Try.func32, Try.ntmps32
  go_wp2_with fail
  refine (cellsValid_any rows mr A cap B ts W HS.out (by omega) hn true ⟨fun _ => H.out, fun _ => rfl⟩).mono ?_
  rintro e w2 ⟨rfl, hb2⟩
  have hs2 := hb2.size
  clear a0 a1 a2 f0 f1 f2 alt
  have HQ0 := Lib.hid (Q0.out.below hb2 (by omega))
  obtain ⟨a0, a1, a2, f0, f1, f2, alt⟩ := HQ0.out
  go_wp2_with fail
  refine (implMV_yes mr M Am capm _ Bm ms w2 (HSM.out.below hb2 (by omega)) (by omega) rfl (by omega) HMV.out).mono ?_
  rintro e w3 ⟨rfl, hb3⟩
  have hb23 := hb2.trans (hb3.mono hs2)
  have hs3 := hb23.size
  clear a0 a1 a2 f0 f1 f2 alt HQ0 hb2 hb3
  have HQ0 := Lib.hid (Q0.out.below hb23 (by omega))
  have HQ1 := Lib.hid (Q1.out.below hb23 (by omega))
  have HS3 := Lib.hid (HS.out.below hb23 (by omega))
  have HSM3 := Lib.hid (HSM.out.below hb23 (by omega))
  have HB3 := Lib.hid (HB.out.trans (hb23.mono (by omega)))
  clear Q0 Q1 HS HSM HB hb23
  obtain ⟨a0, a1, a2, f0, f1, f2, alt⟩ := HQ0.out
  go_wp2_with fail
  refine (emptyM_any rows M n w3 HN.out (by omega)).mono ?_
  rintro e w4 ⟨s4, rfl, hr4, hb4⟩
  obtain ⟨A4, c4, hs4v, hnc4, hcm4, _⟩ := hr4.form
  rw [List.length_replicate] at hs4v hnc4
  subst hs4v
  unfold maxLen at hcm4
  have hs4 := hb4.size
  have k5 := Cell3.new w4 (.int .i64 rows) (.int .i64 M) (.slice A4 n c4) 28
  obtain ⟨V, hV⟩ : ∃ V, w4.alloc (.cells #[.int .i64 rows, .int .i64 M, .slice A4 n c4] 28) = V := ⟨_, rfl⟩
  rw [hV] at k5
  have hsv : V.heap.size = w4.heap.size + 1 := by rw [← hV]; simp
  have hbv : Below w4.heap.size w4 V := hV ▸ (Below.refl _ _).alloc (Nat.le_refl _) _
  have hb34 : Below w3.heap.size w3 V := hb4.trans (hbv.mono (by omega))
  have HV0 := Lib.hid (HQ0.out.below hb34 (by omega))
  have HV1 := Lib.hid (HQ1.out.below hb34 (by omega))
  have HBV := Lib.hid (HB3.out.trans (hb34.mono (by omega)))
  have HRV := Lib.hid (hr4.below hbv (Nat.le_refl _))
  have HSV := Lib.hid (HS3.out.below hb34 (by omega))
  have HSMV := Lib.hid (HSM3.out.below hb34 (by omega))
  have K5 := Lib.hid k5
  clear hr4 hb4 hbv hb34 HQ0 HQ1 HB3 HS3 HSM3 k5 a0 a1 a2 f0 f1 f2 alt
  go_wp2
  have hws' : w.heap.size + 2 ≤ w3.heap.size := by omega
  clear hws
  go_loopw [39] (fun i wr => ∃ k : Nat, k ≤ ts.length ∧ i = .int .i64 k ∧ Row wr w3.heap.size w4.heap.size (.slice A4 n c4) (T k) ∧ Below w.heap.size w wr ∧ Cell3 wr w4.heap.size (.int .i64 rows) (.int .i64 M) (.slice A4 n c4) ∧ Cell3 wr (w.heap.size + 1) (.int .i64 0) (.int .i64 0) (.slice none 0 0) ∧ Cell3 wr w.heap.size (.int .i64 mr) (.int .i64 M) (.slice Am ms.length capm) ∧ Sl wr B A (fl ts) ∧ Sl wr Bm Am ms ∧ V.heap.size ≤ wr.heap.size) (fun i _ => ts.length - (intOf i).toNat)
  case atStart => exact ⟨0, Nat.zero_le _, rfl, by rw [HT0.out]; exact HRV.out, HBV.out, K5.out, HV1.out, HV0.out, HSV.out, HSMV.out, Nat.le_refl _⟩
  case round =>
    clear HRV HBV K5 HV0 HV1 HSV HSMV
    obtain ⟨k, hk, rfl, hrow, hbel, hc5c, hc1c, hc0c, hsl, hslm, hsz⟩ := hrel
    by_cases hlt : k < ts.length
    · obtain ⟨b, off, rfl, hbB, c0, c1, c2⟩ := hsl.tri hlt
      obtain ⟨o1, o2, o3, o4, _⟩ := HOK.out k hlt
      have hTk := HTS.out k
      have hR0 := Lib.hid fun p => HTR.out k p
      obtain ⟨t, ht⟩ : ∃ t, ts.getD k t0 = t := ⟨_, rfl⟩
      rw [ht] at c0 c1 c2 o1 o2 o3 hTk
      obtain ⟨p, q, z⟩ := t
      simp only at c0 c1 c2 o1 o2 o3
      obtain ⟨P, rfl⟩ := Int.eq_ofNat_of_zero_le o1.1
      obtain ⟨Q, rfl⟩ := Int.eq_ofNat_of_zero_le o2.1
      have hPl : P * M + M ≤ n := by
        have e1 : ((P : Int) + 1) * (M : Int) ≤ rows * (M : Int) := Int.mul_le_mul_of_nonneg_right (by omega) (by omega)
        rw [← HN.out, Int.add_mul, Int.one_mul] at e1
        have e2 : ((P * M : Nat) : Int) = (P : Int) * (M : Int) := by simp
        omega
      have hQl : Q * M + M ≤ ms.length := by
        have e1 : ((Q : Int) + 1) * (M : Int) ≤ mr * (M : Int) := Int.mul_le_mul_of_nonneg_right (by omega) (by omega)
        rw [← hml, Int.add_mul, Int.one_mul] at e1
        have e2 : ((Q * M : Nat) : Int) = (Q : Int) * (M : Int) := by simp
        omega
      have hPi : (P : Int) * (M : Int) = ((P * M : Nat) : Int) := by simp
      have hQi : (Q : Int) * (M : Int) = ((Q * M : Nat) : Int) := by simp
      have HU0 : Hid (tStep M ms ((P : Int), (Q : Int), z) (T k) 0 = T k) := rfl
      have HUS : Hid (∀ j, tStep M ms ((P : Int), (Q : Int), z) (T k) (j + 1) = (tStep M ms ((P : Int), (Q : Int), z) (T k) j).set (P * M + j) (((tStep M ms ((P : Int), (Q : Int), z) (T k) j).getD (P * M + j) 0 + z * ms.getD (Q * M + j) 0) % 4096)) := fun _ => rfl
      have HUL : Hid (∀ j, (tStep M ms ((P : Int), (Q : Int), z) (T k) j).length = n) := fun j => by rw [tStep_len, HTL.out]
      have HUR : Hid (∀ j p, 0 ≤ (tStep M ms ((P : Int), (Q : Int), z) (T k) j).getD p 0 ∧ (tStep M ms ((P : Int), (Q : Int), z) (T k) j).getD p 0 ≤ 4095) := fun j => tStep_range M ms _ _ hR0.out j
      obtain ⟨U, hU⟩ : ∃ U, tStep M ms ((P : Int), (Q : Int), z) (T k) = U := ⟨_, rfl⟩
      rw [hU] at HU0 HUS HUL HUR hTk
      have HTk := Lib.hid hTk
      obtain ⟨L1, hL1⟩ : ∃ L, P * M = L := ⟨_, rfl⟩
      obtain ⟨L2, hL2⟩ : ∃ L, Q * M = L := ⟨_, rfl⟩
      rw [hL1] at hPl hPi HUS
      rw [hL2] at hQl hQi HUS
      obtain ⟨g, hg, hg1, hg2, _, _⟩ := hrow.cell_ (j := 0) (by rw [HTL.out]; omega)
      subst hg
      obtain ⟨bm, offm, hAm, hbBm, _⟩ := hslm.at_ (k := 0) (by omega)
      subst hAm
      have hcP := Lib.hid fun wx => rowOf_lenF rows M P g 0 n c4 L1 M wx hPi rfl (by omega) hPl hnc4 (by omega) (by omega)
      have hcQ := Lib.hid fun wx => rowOf_lenF mr M Q bm offm ms.length capm L2 M wx hQi rfl (by omega) hQl hnc (by omega) (by omega)
      have hki : (k : Int) < (ts.length : Int) := by omega
      have hal := World.grownBy_alloc wr (.cells #[.int .i64 P, .int .i64 Q, .int .i64 z] 59) none
      have KN := Cell3.new wr (.int .i64 P) (.int .i64 Q) (.int .i64 z) 59
      have hbA : Below wr.heap.size wr (wr.alloc (.cells #[.int .i64 P, .int .i64 Q, .int .i64 z] 59)) := (Below.refl _ wr).alloc (Nat.le_refl _) _
      have HRA := Lib.hid (hrow.grown hal (fun g e => by cases e))
      have H5 := Lib.hid (hc5c.alloc (.cells #[.int .i64 P, .int .i64 Q, .int .i64 z] 59))
      have H1 := Lib.hid (hc1c.alloc (.cells #[.int .i64 P, .int .i64 Q, .int .i64 z] 59))
      have H0 := Lib.hid (hc0c.alloc (.cells #[.int .i64 P, .int .i64 Q, .int .i64 z] 59))
      have HBL := Lib.hid (hbel.alloc hbel.size (.cells #[.int .i64 P, .int .i64 Q, .int .i64 z] 59))
      have HSL := Lib.hid (hsl.below hbA (by omega))
      have HSM := Lib.hid (hslm.below hbA (by omega))
      have hszA : (wr.alloc (.cells #[.int .i64 P, .int .i64 Q, .int .i64 z] 59)).heap.size = wr.heap.size + 1 := by simp
      obtain ⟨Y, hY⟩ : ∃ Y, wr.alloc (.cells #[.int .i64 P, .int .i64 Q, .int .i64 z] 59) = Y := ⟨_, rfl⟩
      rw [hY] at KN HRA H5 H1 H0 HBL HSL HSM hszA
      have KC := Lib.hid KN
      clear hrow hbel hc5c hc1c hc0c hsl hslm hal hbA ht hTk hU hL1 hL2 hPi hQi
      obtain ⟨u0, u1, u2, _, _, _, ult⟩ := KN
      obtain ⟨v0, v1, v2, _, _, _, vlt⟩ := H5.out
      go_wp2_with fail
      refine (hcP.out _).mono ?_
      rintro e w5 ⟨cp, rfl, hcp1, hcp2, hb5⟩
      rw [Nat.zero_add]
      clear u0 u1 u2 ult v0 v1 v2 vlt
      have hz5 := hb5.size
      have KC5 := Lib.hid (KC.out.below hb5 (by omega))
      have H05 := Lib.hid (H0.out.below hb5 (by omega))
      obtain ⟨u0, u1, u2, _, _, _, ult⟩ := KC5.out
      obtain ⟨v0, v1, v2, _, _, _, vlt⟩ := H05.out
      go_wp2_with fail
      refine (hcQ.out _).mono ?_
      rintro e w6 ⟨cq, rfl, hcq1, hcq2, hb6⟩
      have hbY : Below Y.heap.size Y w6 := hb5.trans (hb6.mono hz5)
      have hz6 := hbY.size
      have JRow := Lib.hid (HRA.out.below hbY (by omega))
      have J5 := Lib.hid (H5.out.below hbY (by omega))
      have J1 := Lib.hid (H1.out.below hbY (by omega))
      have J0 := Lib.hid (H0.out.below hbY (by omega))
      have JB := Lib.hid (HBL.out.trans (hbY.mono (by omega)))
      have JS := Lib.hid (HSL.out.below hbY (by omega))
      have JM := Lib.hid (HSM.out.below hbY (by omega))
      have JC := Lib.hid (KC.out.below hbY (by omega))
      clear u0 u1 u2 ult v0 v1 v2 vlt hb5 hb6 hbY KC5 H05 HRA H5 H1 H0 HBL HSL HSM KC hcP hcQ
      go_wp2
      obtain ⟨N0, hN0⟩ : ∃ N0, wr.heap.size = N0 := ⟨_, rfl⟩
      rw [hN0] at JC hszA hsz ⊢
      clear hN0
      go_loopw [52] (fun i wq => ∃ j : Nat, j ≤ M ∧ i = .int .i64 j ∧ Row wq w3.heap.size w4.heap.size (.slice (some ⟨g, 0, none⟩) n c4) (U j) ∧ Below w.heap.size w wq ∧ Cell3 wq w4.heap.size (.int .i64 rows) (.int .i64 M) (.slice (some ⟨g, 0, none⟩) n c4) ∧ Cell3 wq (w.heap.size + 1) (.int .i64 0) (.int .i64 0) (.slice none 0 0) ∧ Cell3 wq w.heap.size (.int .i64 mr) (.int .i64 M) (.slice (some ⟨bm, offm, none⟩) ms.length capm) ∧ Sl wq B (some ⟨b, off, none⟩) (fl ts) ∧ Sl wq Bm (some ⟨bm, offm, none⟩) ms ∧ Cell3 wq N0 (.int .i64 P) (.int .i64 Q) (.int .i64 z) ∧ V.heap.size ≤ wq.heap.size) (fun i _ => M - (intOf i).toNat)
      case atStart => exact ⟨0, Nat.zero_le _, rfl, by rw [HU0.out]; exact JRow.out, JB.out, J5.out, J1.out, J0.out, JS.out, JM.out, JC.out, by omega⟩
      case round =>
        clear JRow JB J5 J1 J0 JS JM JC
        obtain ⟨j, hj, rfl, hrow, hbel, hc5c, hc1c, hc0c, hsl, hslm, hcc, hsz⟩ := hrel
        by_cases hjl : j < M
        · obtain ⟨bm', offm', hA', _, hcx⟩ := hslm.at_ (k := L2 + j) (by omega)
          injection hA' with hA'
          injection hA' with e1 e2
          subst e1 e2
          rw [← Nat.add_assoc] at hcx
          obtain ⟨g', hg', _, _, hcy, hfy⟩ := hrow.cell_ (j := L1 + j) (by rw [HUL.out]; omega)
          injection hg' with hg'
          injection hg' with hg'
          subst hg'
          have hxr := HMS.out (L2 + j) (by omega)
          have hyr := HUR.out j (L1 + j)
          have hUj := HUS.out j
          obtain ⟨x, hx⟩ : ∃ x, ms.getD (L2 + j) 0 = x := ⟨_, rfl⟩
          obtain ⟨y, hy⟩ : ∃ y, (U j).getD (L1 + j) 0 = y := ⟨_, rfl⟩
          rw [hx] at hcx hxr hUj
          rw [hy] at hcy hyr hUj
          have hur := mul_rngT o3 hxr
          obtain ⟨u, hu⟩ : ∃ u, z * x = u := ⟨_, rfl⟩
          rw [hu] at hur hUj
          have hcall := Lib.hid fun wx => implRing (y + u) wx
          obtain ⟨s, hsE⟩ : ∃ s, (y + u) % 4096 = s := ⟨_, rfl⟩
          rw [hsE] at hUj hcall
          have HUj := Lib.hid hUj
          have hwu : IntKind.i64.wrap u = u := by rw [IntKind.wrap_i64]; omega
          have hwv : IntKind.i64.wrap (y + u) = y + u := by rw [IntKind.wrap_i64]; omega
          clear hx hy hsE hUj
          have hji : (j : Int) < (M : Int) := by omega
          have hD := Lib.hid (drewT wr)
          have HROW := Lib.hid (hD.out.row hrow)
          have HSL := Lib.hid (hD.out.sl hsl)
          have HSK := Lib.hid (hD.out.sl hslm)
          have HBL := Lib.hid (hbel.trans (hD.out.below _))
          have H5 := Lib.hid (hc5c.grown (hD.out.grown none) (by simp))
          have H1 := Lib.hid (hc1c.grown (hD.out.grown none) (by simp))
          have H0 := Lib.hid (hc0c.grown (hD.out.grown none) (by simp))
          have HC := Lib.hid (hcc.grown (hD.out.grown none) (by simp))
          have hccl := hcc.lt
          obtain ⟨d0, d1, d2, _, _, _, dlt⟩ := HC.out
          have hcyd := (hD.out.grown none).cell hcy (by simp)
          have hfyd : wr.drew.frozen? ⟨g, L1 + j, none⟩ = false := hfy
          have S := Lib.hid (HROW.out.stored (L1 + j) s)
          clear hrow hsl hslm hbel hc5c hc1c hc0c hcc hcy hfy
          go_upto_region 11 with fail
          go_region_law (go_simp; go_at_call 61; refine (hcall.out _).mono ?_; rintro e w' ⟨rfl, rfl⟩)
          all_goals (
            go_wp2
            go_roundw
            case rel => exact ⟨j + 1, by omega, by go_num, by rw [HUj.out]; exact S.out.1, HBL.out.setCell (p := ⟨g, L1 + j, none⟩) (show w.heap.size ≤ g by omega) _, H5.out.far (a := ⟨g, L1 + j, none⟩) (show w4.heap.size ≠ g by omega) _, H1.out.far (a := ⟨g, L1 + j, none⟩) (show w.heap.size + 1 ≠ g by omega) _, H0.out.far (a := ⟨g, L1 + j, none⟩) (show w.heap.size ≠ g by omega) _, HSL.out.keep (fun p hp => World.cell?_setCell_other _ _ _ _ (fun e => by rw [← e] at hp; exact absurd (show g < B from hp) (by omega))), HSK.out.keep (fun p hp => World.cell?_setCell_other _ _ _ _ (fun e => by rw [← e] at hp; exact absurd (show g < Bm from hp) (by omega))), HC.out.far (a := ⟨g, L1 + j, none⟩) (show N0 ≠ g by omega) _, by simpa using hsz⟩
            case measure => simp [intOf]; omega)
        · have hjM : j = M := by omega
          subst hjM
          have HROW := Lib.hid hrow
          have HBL := Lib.hid hbel
          have H5 := Lib.hid hc5c
          have H1 := Lib.hid hc1c
          have H0 := Lib.hid hc0c
          have HSL := Lib.hid hsl
          have HSK := Lib.hid hslm
          clear hrow hbel hc5c hc1c hc0c hsl hslm hcc
          go_wp2
          go_roundw
          case rel => exact ⟨k + 1, by omega, by go_num, by rw [HTk.out]; exact HROW.out, HBL.out, H5.out, H1.out, H0.out, HSL.out, HSK.out, hsz⟩
          case measure => simp [intOf]; omega
    · have e : k = ts.length := by omega
      rw [e] at hrow
      have hE := Lib.hid e
      have HR := Lib.hid hrow
      have HB5 := Lib.hid hbel
      have HC1 := Lib.hid hc1c
      obtain ⟨v0, v1, v2, p0, p1, p2, vlt⟩ := hc5c
      obtain ⟨b0, b1, b2, g0, g1, g2, blt⟩ := hc1c
      clear hrow hbel e hsl hslm hc0c
      go_wp2
      have P2 := ((HC1.out.set0 (.int .i64 rows)).set1 (.int .i64 M)).set2 (.slice A4 n c4)
      have R2 := HR.out.grown (set_grown _ (w.heap.size + 1) 0 (.int .i64 rows)) (fun g e => by cases e; left; omega)
      have R3 := R2.grown (set_grown _ (w.heap.size + 1) 1 (.int .i64 M)) (fun g e => by cases e; left; omega)
      have R4 := R3.grown (set_grown _ (w.heap.size + 1) 2 (.slice A4 n c4)) (fun g e => by cases e; left; omega)
      have B4 := ((HB5.out.setCell (p := ⟨w.heap.size + 1, 0, none⟩) (by simp) (.int .i64 rows)).setCell (p := ⟨w.heap.size + 1, 1, none⟩) (by simp) (.int .i64 M)).setCell (p := ⟨w.heap.size + 1, 2, none⟩) (by simp) (.slice A4 n c4)
      have S4 : ((((wr.setCell ⟨w.heap.size + 1, 0, none⟩ (.int .i64 rows)).setCell ⟨w.heap.size + 1, 1, none⟩ (.int .i64 M)).setCell ⟨w.heap.size + 1, 2, none⟩ (.slice A4 n c4)).heap.size) = wr.heap.size := by simp
      obtain ⟨W4, hW4⟩ : ∃ W4, (((wr.setCell ⟨w.heap.size + 1, 0, none⟩ (.int .i64 rows)).setCell ⟨w.heap.size + 1, 1, none⟩ (.int .i64 M)).setCell ⟨w.heap.size + 1, 2, none⟩ (.slice A4 n c4)) = W4 := ⟨_, rfl⟩
      rw [hW4] at P2 R4 B4 S4 ⊢
      obtain ⟨z0, z1, z2, _, _, _, _⟩ := P2
      refine bodyPost_ret (v := .tuple #[matV rows M (.slice A4 n c4), .bool true]) (by simp [results, Try.results32, go_sem, z0, z1, z2]) rfl ?_
      exact ⟨_, rfl, R4.wider (by omega) (by omega), B4⟩
set_option maxHeartbeats 1600000 in
theorem implCT_no (h : ¬ OkT rows cols ts mr mc ms) :
    Calls Try.prog 32 #[.int .i64 rows, .int .i64 cols, .slice A ts.length cap, matV mr mc (.slice Am nm capm)] w fun e w' => e = .returned (.tuple #[matV 0 0 (.slice none 0 0), .bool false]) ∧ Below w.heap.size w w' := by
  subst em
  obtain ⟨W, hW⟩ : ∃ W, (w.alloc (.cells #[.int .i64 mr, .int .i64 mc, .slice Am ms.length capm] 28)).alloc (.cells #[.int .i64 0, .int .i64 0, .slice none 0 0] 28) = W := ⟨_, rfl⟩
  obtain ⟨q0, q1, hb, hws⟩ := nestT w mr mc (.slice Am ms.length capm) W hW.symm
  have HS := Lib.hid (hs.below hb hB)
  have HSM := Lib.hid (hsm.below hb hBm)
  have Q0 := Lib.hid q0
  have Q1 := Lib.hid q1
  have HB := Lib.hid hb
  clear hs hsm q1 hb
  obtain ⟨a0, a1, a2, f0, f1, f2, alt⟩ := q0
  by_cases hC : OkC rows cols ts
  · have H := Lib.hid hC
    have HN := Lib.hid h
    clear hC h
    go_enter Try.func32, Try.ntmps32
    go_wp2_with fail
    refine (cellsValid_any rows cols A cap B ts W HS.out (by omega) hn true ⟨fun _ => H.out, fun _ => rfl⟩).mono ?_
    rintro e w2 ⟨rfl, hb2⟩
    have hs2 := hb2.size
    clear a0 a1 a2 f0 f1 f2 alt
    have HQ0 := Lib.hid (Q0.out.below hb2 (by omega))
    obtain ⟨a0, a1, a2, f0, f1, f2, alt⟩ := HQ0.out
    by_cases hM : OkM mr mc ms
    · have hne : (mr == cols) = false := by
        have : mr ≠ cols := fun e => HN.out ⟨H.out, hM, e⟩
        simpa using this
      have HM := Lib.hid hM
      clear hM
      go_wp2_with fail
      refine (implMV_yes mr mc Am capm _ Bm ms w2 (HSM.out.below hb2 (by omega)) (by omega) rfl (by omega) HM.out).mono ?_
      rintro e w3 ⟨rfl, hb3⟩
      have hb23 := hb2.trans (hb3.mono hs2)
      have HQ1 := Lib.hid (HQ0.out.below hb3 (by omega))
      have HP := Lib.hid (Q1.out.below hb23 (by omega))
      have HB2 := Lib.hid (HB.out.trans (hb23.mono (by omega)))
      clear hb2 hb3 hb23 a0 a1 a2 f0 f1 f2 alt
      obtain ⟨a0, a1, a2, f0, f1, f2, alt⟩ := HQ1.out
      obtain ⟨b0, b1, b2, g0, g1, g2, blt⟩ := HP.out
      go_wp2
      have P2 := ((HP.out.set0 (.int .i64 0)).set1 (.int .i64 0)).set2 (.slice none 0 0)
      have B4 := ((HB2.out.setCell (p := ⟨w.heap.size + 1, 0, none⟩) (by simp) (.int .i64 0)).setCell (p := ⟨w.heap.size + 1, 1, none⟩) (by simp) (.int .i64 0)).setCell (p := ⟨w.heap.size + 1, 2, none⟩) (by simp) (.slice none 0 0)
      obtain ⟨W4, hW4⟩ : ∃ W4, (((w3.setCell ⟨w.heap.size + 1, 0, none⟩ (.int .i64 0)).setCell ⟨w.heap.size + 1, 1, none⟩ (.int .i64 0)).setCell ⟨w.heap.size + 1, 2, none⟩ (.slice none 0 0)) = W4 := ⟨_, rfl⟩
      rw [hW4] at P2 B4 ⊢
      obtain ⟨z0, z1, z2, _, _, _, _⟩ := P2
      refine bodyPost_ret (v := .tuple #[matV 0 0 (.slice none 0 0), .bool false]) (by simp [results, Try.results32, go_sem, z0, z1, z2]) rfl ?_
      exact ⟨rfl, B4⟩
    · have HM := Lib.hid hM
      clear hM
      go_wp2_with fail
      refine (implMV_no mr mc Am capm _ Bm ms w2 (HSM.out.below hb2 (by omega)) (by omega) rfl (by omega) HM.out).mono ?_
      rintro e w3 ⟨rfl, hb3⟩
      have hb23 := hb2.trans (hb3.mono hs2)
      have HP := Lib.hid (Q1.out.below hb23 (by omega))
      have HB2 := Lib.hid (HB.out.trans (hb23.mono (by omega)))
      clear hb2 hb3 hb23 a0 a1 a2 f0 f1 f2 alt
      obtain ⟨b0, b1, b2, g0, g1, g2, blt⟩ := HP.out
      go_wp2
      have P2 := ((HP.out.set0 (.int .i64 0)).set1 (.int .i64 0)).set2 (.slice none 0 0)
      have B4 := ((HB2.out.setCell (p := ⟨w.heap.size + 1, 0, none⟩) (by simp) (.int .i64 0)).setCell (p := ⟨w.heap.size + 1, 1, none⟩) (by simp) (.int .i64 0)).setCell (p := ⟨w.heap.size + 1, 2, none⟩) (by simp) (.slice none 0 0)
      obtain ⟨W4, hW4⟩ : ∃ W4, (((w3.setCell ⟨w.heap.size + 1, 0, none⟩ (.int .i64 0)).setCell ⟨w.heap.size + 1, 1, none⟩ (.int .i64 0)).setCell ⟨w.heap.size + 1, 2, none⟩ (.slice none 0 0)) = W4 := ⟨_, rfl⟩
      rw [hW4] at P2 B4 ⊢
      obtain ⟨z0, z1, z2, _, _, _, _⟩ := P2
      refine bodyPost_ret (v := .tuple #[matV 0 0 (.slice none 0 0), .bool false]) (by simp [results, Try.results32, go_sem, z0, z1, z2]) rfl ?_
      exact ⟨rfl, B4⟩
  · have H := Lib.hid hC
    clear hC h
    go_enter Try.func32, Try.ntmps32
    go_wp2_with fail
    refine (cellsValid_any rows cols A cap B ts W HS.out (by omega) hn false ⟨fun e => by simp at e, fun e => absurd e H.out⟩).mono ?_
    rintro e w2 ⟨rfl, hb2⟩
    have HP := Lib.hid (Q1.out.below hb2 (by omega))
    have HB2 := Lib.hid (HB.out.trans (hb2.mono (by omega)))
    clear hb2 a0 a1 a2 f0 f1 f2 alt
    obtain ⟨b0, b1, b2, g0, g1, g2, blt⟩ := HP.out
    go_wp2
    have P2 := ((HP.out.set0 (.int .i64 0)).set1 (.int .i64 0)).set2 (.slice none 0 0)
    have B4 := ((HB2.out.setCell (p := ⟨w.heap.size + 1, 0, none⟩) (by simp) (.int .i64 0)).setCell (p := ⟨w.heap.size + 1, 1, none⟩) (by simp) (.int .i64 0)).setCell (p := ⟨w.heap.size + 1, 2, none⟩) (by simp) (.slice none 0 0)
    obtain ⟨W4, hW4⟩ : ∃ W4, (((w2.setCell ⟨w.heap.size + 1, 0, none⟩ (.int .i64 0)).setCell ⟨w.heap.size + 1, 1, none⟩ (.int .i64 0)).setCell ⟨w.heap.size + 1, 2, none⟩ (.slice none 0 0)) = W4 := ⟨_, rfl⟩
    rw [hW4] at P2 B4 ⊢
    obtain ⟨z0, z1, z2, _, _, _, _⟩ := P2
    refine bodyPost_ret (v := .tuple #[matV 0 0 (.slice none 0 0), .bool false]) (by simp [results, Try.results32, go_sem, z0, z1, z2]) rfl ?_
    exact ⟨rfl, B4⟩
end
open Classical in
noncomputable def ctR (rows cols : Int) (ts : List Tri) (mr mc : Int) (ms : List Int) : Int := if OkT rows cols ts mr mc ms then rows else 0
open Classical in
noncomputable def ctC (rows cols : Int) (ts : List Tri) (mr mc : Int) (ms : List Int) : Int := if OkT rows cols ts mr mc ms then mc else 0
open Classical in
noncomputable def ctZ (rows cols : Int) (ts : List Tri) (mr mc : Int) (ms : List Int) : List Int := if OkT rows cols ts mr mc ms then tTo (rows * mc).toNat mc.toNat ms ts ts.length else []
open Classical in
noncomputable def ctB (rows cols : Int) (ts : List Tri) (mr mc : Int) (ms : List Int) : Bool := decide (OkT rows cols ts mr mc ms)
theorem implCT_any (rows cols : Int) (A : Option Addr) (cap B : Nat) (ts : List Tri) (mr mc : Int) (Am : Option Addr) (capm nm Bm : Nat) (ms : List Int) (w : World) (hs : Sl w B A (fl ts)) (hB : B ≤ w.heap.size) (hn : ts.length ≤ 2000000)
    (hsm : Sl w Bm Am ms) (hBm : Bm ≤ w.heap.size) (em : nm = ms.length) (hnm : nm ≤ 1100000) (hnc : nm ≤ capm) (hcm : capm ≤ maxLen) :
    Calls Try.prog 32 #[.int .i64 rows, .int .i64 cols, .slice A ts.length cap, matV mr mc (.slice Am nm capm)] w fun e w' => ∃ s, e = .returned (.tuple #[matV (ctR rows cols ts mr mc ms) (ctC rows cols ts mr mc ms) s, .bool (ctB rows cols ts mr mc ms)]) ∧ Row w' w.heap.size w'.heap.size s (ctZ rows cols ts mr mc ms) ∧ Below w.heap.size w w' := by
  classical
  unfold ctR ctC ctZ ctB
  by_cases h : OkT rows cols ts mr mc ms
  · rw [if_pos h, if_pos h, if_pos h, decide_eq_true h]
    have h2 := side_mul h.1.1 h.2.1.2.1
    have h3 := h.2.1.2.1
    exact implCT_yes rows cols A cap B ts mr mc Am capm nm Bm ms w hs hB hn hsm hBm em hnm _ _ (by omega) (by omega) hnc hcm h
  · rw [if_neg h, if_neg h, if_neg h, decide_eq_false h]
    exact (implCT_no rows cols A cap B ts mr mc Am capm nm Bm ms w hs hB hn hsm hBm em hnm h).mono fun e w' ⟨h1, h2⟩ => ⟨_, h1, Row.nil_ _ _ _, h2⟩
theorem ctZ_len (rows cols : Int) (ts : List Tri) (mr mc : Int) (ms : List Int) : (ctZ rows cols ts mr mc ms).length ≤ 25 := by
  unfold ctZ
  split
  · next h =>
    rw [tTo_len]
    have := side_mul h.1.1 h.2.1.2.1
    omega
  · simp
end Go.Proofs.Ytdebnbgjnmoleaa
