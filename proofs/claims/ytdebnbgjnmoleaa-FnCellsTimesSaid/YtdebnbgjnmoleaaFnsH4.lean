/- Contracts: matrices of cells, the program's. -/
import Derived.Test.YtdebnbgjnmoleaaFnsH3
namespace Go.Proofs.Ytdebnbgjnmoleaa
open Go.RowKit

theorem nestR (w : World) : ∀ W, W = w.alloc (.cells #[.int .i64 0, .int .i64 0, .slice none 0 0] 28) →
    Cell3 W w.heap.size (.int .i64 0) (.int .i64 0) (.slice none 0 0) ∧ Below w.heap.size w W ∧ W.heap.size = w.heap.size + 1 := by
  rintro W rfl
  exact ⟨Cell3.new _ _ _ _ _, (Below.refl _ _).alloc (Nat.le_refl _) _, by simp⟩
set_option maxHeartbeats 1600000 in
theorem implCM_yes (rows cols : Int) (A : Option Addr) (cap B n : Nat) (ts : List Tri) (w : World) (hs : Sl w B A (fl ts)) (hB : B ≤ w.heap.size) (hn : ts.length ≤ 2000000) (hN : (n : Int) = rows * cols) (h : OkC rows cols ts) :
    Calls Try.prog 24 #[.int .i64 rows, .int .i64 cols, .slice A ts.length cap] w fun e w' => ∃ s, e = .returned (.tuple #[matV rows cols s, .bool true]) ∧ Row w' w.heap.size w'.heap.size s (putTo n cols ts ts.length) ∧ Below w.heap.size w w' := by
  have h1 := h.1
  have h2 := h.2.1
  have hn25 : 1 ≤ n ∧ n ≤ 25 := by have := side_mul h1 h2; omega
  have HOK := Lib.hid h.2.2
  have H := Lib.hid h
  have HN := Lib.hid hN
  have HT0 : Hid (putTo n cols ts 0 = List.replicate n 0) := rfl
  have HTL : Hid (∀ k, (putTo n cols ts k).length = n) := fun k => putTo_len n cols ts k
  have HTS : Hid (∀ k, putTo n cols ts (k + 1) = (putTo n cols ts k).set (plc cols (ts.getD k t0)).toNat (ts.getD k t0).2.2) := fun _ => rfl
  obtain ⟨T, hT⟩ : ∃ T, putTo n cols ts = T := ⟨_, rfl⟩
  rw [hT] at HT0 HTL HTS ⊢
  clear hT h hN
  obtain ⟨W, hW⟩ : ∃ W, w.alloc (.cells #[.int .i64 0, .int .i64 0, .slice none 0 0] 28) = W := ⟨_, rfl⟩
  obtain ⟨q0, hb, hws⟩ := nestR w W hW.symm
  have HS := Lib.hid (hs.below hb hB)
  have Q0 := Lib.hid q0
  have HB := Lib.hid hb
  clear hs q0 hb
  go_enter Try.func24, Try.ntmps24
  go_wp2_with fail
  refine (cellsValid_any rows cols A cap B ts W HS.out (by omega) hn true ⟨fun _ => H.out, fun _ => rfl⟩).mono ?_
  rintro e w2 ⟨rfl, hb2⟩
  have hs2 := hb2.size
  have HS2 := Lib.hid (HS.out.below hb2 (by omega))
  have HQ0 := Lib.hid (Q0.out.below hb2 (by omega))
  have HB2 := Lib.hid (HB.out.trans (hb2.mono (by omega)))
  clear hb2 HS Q0 HB
  go_wp2_with fail
  refine (emptyM_any rows cols n w2 HN.out (by omega)).mono ?_
  rintro e w3 ⟨s3, rfl, hr3, hb3⟩
  obtain ⟨A3, c3, hs3v, hnc3, hcm3, _⟩ := hr3.form
  rw [List.length_replicate] at hs3v hnc3
  subst hs3v
  have hs3 := hb3.size
  have k5 := Cell3.new w3 (.int .i64 rows) (.int .i64 cols) (.slice A3 n c3) 28
  obtain ⟨V, hV⟩ : ∃ V, w3.alloc (.cells #[.int .i64 rows, .int .i64 cols, .slice A3 n c3] 28) = V := ⟨_, rfl⟩
  rw [hV] at k5
  have hsv : V.heap.size = w3.heap.size + 1 := by rw [← hV]; simp
  have hbv : Below w3.heap.size w3 V := hV ▸ (Below.refl _ _).alloc (Nat.le_refl _) _
  have hb23 : Below w2.heap.size w2 V := hb3.trans (hbv.mono (by omega))
  have HV0 := Lib.hid (HQ0.out.below hb23 (by omega))
  have HBV := Lib.hid (HB2.out.trans (hb23.mono (by omega)))
  have HRV := Lib.hid (hr3.below hbv (Nat.le_refl _))
  have HSV := Lib.hid (HS2.out.below hb23 (by omega))
  have K5 := Lib.hid k5
  clear hr3 hb3 hbv hb23 HQ0 HB2 HS2 k5
  go_wp2
  have hws' : w.heap.size + 1 ≤ w2.heap.size := by omega
  go_loopw [22] (fun i wr => ∃ k : Nat, k ≤ ts.length ∧ i = .int .i64 k ∧ Row wr w2.heap.size w3.heap.size (.slice A3 n c3) (T k) ∧ Below w.heap.size w wr ∧ Cell3 wr w3.heap.size (.int .i64 rows) (.int .i64 cols) (.slice A3 n c3) ∧ Cell3 wr w.heap.size (.int .i64 0) (.int .i64 0) (.slice none 0 0) ∧ Sl wr B A (fl ts) ∧ V.heap.size ≤ wr.heap.size) (fun i _ => ts.length - (intOf i).toNat)
  case atStart => exact ⟨0, Nat.zero_le _, rfl, by rw [HT0.out]; exact HRV.out, HBV.out, K5.out, HV0.out, HSV.out, Nat.le_refl _⟩
  case round =>
    clear HRV HBV K5 HV0 HSV
    obtain ⟨k, hk, rfl, hrow, hbel, hc5c, hc0c, hsl, hsz⟩ := hrel
    by_cases hlt : k < ts.length
    · obtain ⟨b, off, rfl, hbB, c0, c1, c2⟩ := hsl.tri hlt
      obtain ⟨o1, o2, o3, o4, _⟩ := HOK.out k hlt
      have hTk := HTS.out k
      obtain ⟨t, ht⟩ : ∃ t, ts.getD k t0 = t := ⟨_, rfl⟩
      rw [ht] at c0 c1 c2 o1 o2 hTk
      obtain ⟨p, q, z⟩ := t
      simp only at c0 c1 c2 o1 o2 hTk
      have hmb := tri_mul (p := p) (cols := cols) ⟨o1.1, by omega⟩ h2
      have hpb : plc cols (p, q, z) < rows * cols := (plc_bound (t := (p, q, z)) (rows := rows) (by have := HOK.out k hlt; rw [ht] at this; exact this) h2.2).2
      rw [← HN.out] at hpb
      have hple : plc cols (p, q, z) = p * cols + q := rfl
      rw [hple] at hpb hTk
      obtain ⟨m, hm⟩ : ∃ m, p * cols = m := ⟨_, rfl⟩
      rw [hm] at hmb hpb hTk
      obtain ⟨P, hP⟩ : ∃ P : Nat, m + q = (P : Int) := ⟨(m + q).toNat, by omega⟩
      rw [hP] at hpb hTk
      rw [Int.toNat_natCast] at hTk
      have HTk := Lib.hid hTk
      have hwm : IntKind.i64.wrap m = m := by rw [IntKind.wrap_i64]; omega
      have hwp : IntKind.i64.wrap (P : Int) = (P : Int) := by rw [IntKind.wrap_i64]; omega
      obtain ⟨g, hg, hg1, hg2, hcg, hfz⟩ := hrow.cell_ (j := P) (by rw [HTL.out]; omega)
      subst hg
      have hki : (k : Int) < (ts.length : Int) := by omega
      have hal := World.grownBy_alloc wr (.cells #[.int .i64 p, .int .i64 q, .int .i64 z] 59) none
      have KN := Cell3.new wr (.int .i64 p) (.int .i64 q) (.int .i64 z) 59
      have hrA := hrow.grown hal (fun g e => by cases e)
      have H5 := Lib.hid (hc5c.alloc (.cells #[.int .i64 p, .int .i64 q, .int .i64 z] 59))
      have H0 := Lib.hid (hc0c.alloc (.cells #[.int .i64 p, .int .i64 q, .int .i64 z] 59))
      have HBL := Lib.hid (hbel.alloc hbel.size (.cells #[.int .i64 p, .int .i64 q, .int .i64 z] 59))
      have HSL := Lib.hid (hsl.below (B' := wr.heap.size) ((Below.refl _ wr).alloc (Nat.le_refl _) (.cells #[.int .i64 p, .int .i64 q, .int .i64 z] 59)) (by omega))
      obtain ⟨y, hy⟩ : ∃ y, (T k).getD P 0 = y := ⟨_, rfl⟩
      rw [hy] at hcg
      have hcgA := hal.cell hcg (by simp)
      have hfzA : (wr.alloc (.cells #[.int .i64 p, .int .i64 q, .int .i64 z] 59)).frozen? ⟨g, P, none⟩ = false := (World.frozen?_of_block (a := ⟨g, P, none⟩) (hal.block g (show g < wr.heap.size by omega) (by simp))).trans hfz
      have S := Lib.hid (hrA.stored P z)
      obtain ⟨v0, v1, v2, _, _, _, vlt⟩ := H5.out
      obtain ⟨u0, u1, u2, _, _, _, ult⟩ := KN
      have hPn : (P : Int) < (n : Int) := by omega
      clear hrow hbel hc5c hc0c hsl hrA hal ht hple hTk hy
      go_wp2
      go_roundw
      case rel => exact ⟨k + 1, by omega, by go_num, by rw [HTk.out]; exact S.out.1, HBL.out.setCell (p := ⟨g, P, none⟩) (show w.heap.size ≤ g by omega) _, H5.out.far (a := ⟨g, P, none⟩) (show w3.heap.size ≠ g by omega) _, H0.out.far (a := ⟨g, P, none⟩) (show w.heap.size ≠ g by omega) _, HSL.out.keep (fun p hp => World.cell?_setCell_other _ _ _ _ (fun e => by rw [← e] at hp; exact absurd (show g < B from hp) (by omega))), by simp; omega⟩
      case measure => simp [intOf]; omega
    · have e : k = ts.length := by omega
      rw [e] at hrow
      have hE := Lib.hid e
      have HR := Lib.hid hrow
      have HB5 := Lib.hid hbel
      have HC1 := Lib.hid hc0c
      obtain ⟨v0, v1, v2, p0, p1, p2, vlt⟩ := hc5c
      obtain ⟨b0, b1, b2, g0, g1, g2, blt⟩ := hc0c
      clear hrow hbel e hsl
      go_wp2
      have P2 := ((HC1.out.set0 (.int .i64 rows)).set1 (.int .i64 cols)).set2 (.slice A3 n c3)
      have R2 := HR.out.grown (set_grown _ w.heap.size 0 (.int .i64 rows)) (fun g e => by cases e; left; omega)
      have R3 := R2.grown (set_grown _ w.heap.size 1 (.int .i64 cols)) (fun g e => by cases e; left; omega)
      have R4 := R3.grown (set_grown _ w.heap.size 2 (.slice A3 n c3)) (fun g e => by cases e; left; omega)
      have B4 := ((HB5.out.setCell (p := ⟨w.heap.size, 0, none⟩) (by simp) (.int .i64 rows)).setCell (p := ⟨w.heap.size, 1, none⟩) (by simp) (.int .i64 cols)).setCell (p := ⟨w.heap.size, 2, none⟩) (by simp) (.slice A3 n c3)
      have S4 : ((((wr.setCell ⟨w.heap.size, 0, none⟩ (.int .i64 rows)).setCell ⟨w.heap.size, 1, none⟩ (.int .i64 cols)).setCell ⟨w.heap.size, 2, none⟩ (.slice A3 n c3)).heap.size) = wr.heap.size := by simp
      obtain ⟨W4, hW4⟩ : ∃ W4, (((wr.setCell ⟨w.heap.size, 0, none⟩ (.int .i64 rows)).setCell ⟨w.heap.size, 1, none⟩ (.int .i64 cols)).setCell ⟨w.heap.size, 2, none⟩ (.slice A3 n c3)) = W4 := ⟨_, rfl⟩
      rw [hW4] at P2 R4 B4 S4 ⊢
      obtain ⟨z0, z1, z2, _, _, _, _⟩ := P2
      refine bodyPost_ret (v := .tuple #[matV rows cols (.slice A3 n c3), .bool true]) (by simp [results, Try.results24, go_sem, z0, z1, z2]) rfl ?_
      exact ⟨_, rfl, R4.wider (by omega) (by omega), B4⟩
theorem implCM_no (rows cols : Int) (A : Option Addr) (cap B : Nat) (ts : List Tri) (w : World) (hs : Sl w B A (fl ts)) (hB : B ≤ w.heap.size) (hn : ts.length ≤ 2000000) (h : ¬ OkC rows cols ts) :
    Calls Try.prog 24 #[.int .i64 rows, .int .i64 cols, .slice A ts.length cap] w fun e w' => e = .returned (.tuple #[matV 0 0 (.slice none 0 0), .bool false]) ∧ Below w.heap.size w w' := by
  have H := Lib.hid h
  clear h
  obtain ⟨W, hW⟩ : ∃ W, w.alloc (.cells #[.int .i64 0, .int .i64 0, .slice none 0 0] 28) = W := ⟨_, rfl⟩
  obtain ⟨q0, hb, hws⟩ := nestR w W hW.symm
  have HS := Lib.hid (hs.below hb hB)
  have Q0 := Lib.hid q0
  have HB := Lib.hid hb
  clear hs q0 hb
  go_enter Try.func24, Try.ntmps24
  go_wp2_with fail
  refine (cellsValid_any rows cols A cap B ts W HS.out (by omega) hn false ⟨fun e => by simp at e, fun e => absurd e H.out⟩).mono ?_
  rintro e w2 ⟨rfl, hb2⟩
  have HP := Lib.hid (Q0.out.below hb2 (by omega))
  have HB2 := Lib.hid (HB.out.trans (hb2.mono (by omega)))
  obtain ⟨b0, b1, b2, g0, g1, g2, blt⟩ := HP.out
  clear hb2
  go_wp2
  have P2 := ((HP.out.set0 (.int .i64 0)).set1 (.int .i64 0)).set2 (.slice none 0 0)
  have B4 := ((HB2.out.setCell (p := ⟨w.heap.size, 0, none⟩) (by simp) (.int .i64 0)).setCell (p := ⟨w.heap.size, 1, none⟩) (by simp) (.int .i64 0)).setCell (p := ⟨w.heap.size, 2, none⟩) (by simp) (.slice none 0 0)
  obtain ⟨W4, hW4⟩ : ∃ W4, (((w2.setCell ⟨w.heap.size, 0, none⟩ (.int .i64 0)).setCell ⟨w.heap.size, 1, none⟩ (.int .i64 0)).setCell ⟨w.heap.size, 2, none⟩ (.slice none 0 0)) = W4 := ⟨_, rfl⟩
  rw [hW4] at P2 B4 ⊢
  obtain ⟨z0, z1, z2, _, _, _, _⟩ := P2
  refine bodyPost_ret (v := .tuple #[matV 0 0 (.slice none 0 0), .bool false]) (by simp [results, Try.results24, go_sem, z0, z1, z2]) rfl ?_
  exact ⟨rfl, B4⟩
end Go.Proofs.Ytdebnbgjnmoleaa
