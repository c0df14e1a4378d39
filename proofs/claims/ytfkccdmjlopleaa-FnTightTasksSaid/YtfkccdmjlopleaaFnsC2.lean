/- Contracts: rounds, as early as possible. -/
import Derived.Test.YtfkccdmjlopleaaFnsC1
import Derived.Test.YtfkccdmjlopleaaPlainC2
import Derived.StillTailTactics
import Derived.BigRegion
namespace Go.Proofs.Ytfkccdmjlopleaa
open Go.RowKit

theorem made_row (w : World) (n : Nat) (hn : n ≤ 2000000) : Row (w.alloc (.cells (madeCells #[Value.int .i64 0] n) 3)) w.heap.size (w.heap.size + 1) (.slice (some ⟨w.heap.size, 0, none⟩) n n) (List.replicate n 0) := by
  refine ⟨?_, fun g hg => by simp [Value.ownBlock] at hg; omega⟩
  rw [List.length_replicate, ← madeCells_ints]
  exact World.ownsRow_lit w _ _ (Nat.le_refl _) (by simp only [maxLen]; omega) (by simp [madeCells])

section
variable (A : Option Addr) (c B : Nat) (zss : List (List Int)) (w : World) (hs : SS w B A zss) (hn : Small 2000000 zss)
include hs hn
theorem implTV_yes (h : OkT zss) : Calls Try.prog 14 #[.slice A zss.length c] w fun e w' => e = .returned (.bool true) ∧ w = w' := implTV_any A c B zss w hs hn true ⟨fun _ => h, fun _ => rfl⟩
theorem implTV_no (h : ¬ OkT zss) : Calls Try.prog 14 #[.slice A zss.length c] w fun e w' => e = .returned (.bool false) ∧ w = w' := implTV_any A c B zss w hs hn false ⟨fun e => by simp at e, fun e => absurd e h⟩
theorem specTV_yes (h : OkT zss) : Calls Try.prog 12 #[.slice A zss.length c] w fun e w' => e = .returned (.bool true) ∧ w = w' := specTV_any A c B zss w hs hn true ⟨fun _ => h, fun _ => rfl⟩
theorem specTV_no (h : ¬ OkT zss) : Calls Try.prog 12 #[.slice A zss.length c] w fun e w' => e = .returned (.bool false) ∧ w = w' := specTV_any A c B zss w hs hn false ⟨fun e => by simp at e, fun e => absurd e h⟩
end

section
variable (A : Option Addr) (c : Nat) (zss : List (List Int)) (w : World) (hs : SS w w.heap.size A zss) (hn : Small 2000000 zss)
include hs hn
theorem implTR_no (h : ¬ OkT zss) : Calls Try.prog 19 #[.slice A zss.length c] w fun e w' => e = .returned (.slice none 0 0) ∧ w = w' := by
  have HS := Lib.hid hs
  have HN := Lib.hid hn
  have hn1 := hn.1
  have HV := Lib.hid h
  clear hs h hn
  go_enter Try.func19, Try.ntmps19
  go_wp2_with fail
  refine (implTV_no A c _ zss w HS.out HN.out HV.out).mono ?_
  rintro e w' ⟨rfl, rfl⟩
  go_wp2
  go_ret
  exact ⟨rfl, rfl⟩
set_option maxHeartbeats 1600000 in
theorem implTR_yes (h : OkT zss) : Calls Try.prog 19 #[.slice A zss.length c] w fun e w' => ∃ v, e = .returned v ∧ Row w' w.heap.size w'.heap.size v (rdsTo zss zss.length) ∧ Below w.heap.size w w' := by
  have HS := Lib.hid hs
  have HN := Lib.hid hn
  have hn1 := hn.1
  have HV := Lib.hid h
  have hl := h.1
  clear hs h hn
  have hmk := run_make_row' (P := Try.prog) 29 3 (.int .i64 0) 8 Try.underlying29 info_int rfl .i64 .i64 zss.length (by omega) (by omega)
  go_enter Try.func19, Try.ntmps19
  go_wp2_with fail
  refine (implTV_yes A c _ zss w HS.out HN.out HV.out).mono ?_
  rintro e w' ⟨rfl, rfl⟩
  go_wp2
  clear hmk
  have h0 := made_row w zss.length (by omega)
  go_loopw [16] (fun i wr => ∃ k : Nat, k ≤ zss.length ∧ i = .int .i64 k ∧ Row wr w.heap.size (w.heap.size + 1) (.slice (some ⟨w.heap.size, 0, none⟩) zss.length zss.length) (stO zss zss.length k) ∧ Below w.heap.size w wr ∧ w.heap.size + 1 ≤ wr.heap.size) (fun i _ => zss.length - (intOf i).toNat)
  case atStart => exact ⟨0, Nat.zero_le _, rfl, by rw [stO_zero]; exact h0, (Below.refl _ _).alloc (Nat.le_refl _) _, by simp⟩
  case round =>
    obtain ⟨k, hk, rfl, hown, hnx, hsz⟩ := hrel
    clear h0
    by_cases hlt : k < zss.length
    · obtain ⟨b, off, A', c', rfl, hbB, hc, _, _, hsl⟩ := (HS.out.below hnx (Nat.le_refl _)).at_ hlt
      have hW := HV.out.2 k hlt
      have hbd := rdsTo_bound k (fun t ht => HV.out.2 t (by omega))
      have hin0 := inTo_bound hW.2 hbd
      have S := Lib.hid ((hown.stored k 1).1)
      rw [stO_set _ _ _ _ hlt] at S
      obtain ⟨g, hg, _, _, hu, hf⟩ := hown.cell_ (j := k) (by rw [stO_length _ _ _ hk]; exact hlt)
      cases hg
      obtain ⟨u, hu'⟩ : ∃ u, (stO zss zss.length k).getD k 0 = u := ⟨_, rfl⟩
      rw [hu'] at hu
      have HFULL := Lib.hid (stR_full zss zss.length k)
      have HSU := Lib.hid (fun j hj => inTo_succ (at2 zss k) (rdsTo zss k) j hj)
      have hw4 := hW.1
      have HIN := Lib.hid hW.2
      have HZ := Lib.hid (inTo_zero (at2 zss k) (rdsTo zss k))
      obtain ⟨zs, hzs⟩ : ∃ zs, at2 zss k = zs := ⟨_, rfl⟩
      rw [hzs] at hc hsl HFULL HSU hw4 HIN HZ hin0
      have HSL := Lib.hid (hsl.keep (w' := w) (fun _ hp => (hnx.cell hp).symm))
      have HBD := Lib.hid hbd
      have HI0 := Lib.hid hin0
      clear hzs hsl hown hu' hW hbd hin0
      go_wp2
      have hst0 : Below w.heap.size w (wr.setCell ⟨w.heap.size, k, none⟩ (.int .i64 1)) := hnx.setCell (Nat.le_refl _) _
      have hsz0 : w.heap.size + 1 ≤ (wr.setCell ⟨w.heap.size, k, none⟩ (.int .i64 1)).heap.size := by simpa using hsz
      go_loopw [26] (fun i wq => ∃ j : Nat, j ≤ zs.length ∧ i = .int .i64 j ∧ Row wq w.heap.size (w.heap.size + 1) (.slice (some ⟨w.heap.size, 0, none⟩) zss.length zss.length) (stR zss zss.length k (inTo zs (rdsTo zss k) j)) ∧ Below w.heap.size w wq ∧ w.heap.size + 1 ≤ wq.heap.size) (fun i _ => zs.length - (intOf i).toNat)
      case atStart => exact ⟨0, Nat.zero_le _, rfl, by rw [HZ.out]; exact S.out, hst0, hsz0⟩
      case round =>
        rename_i wq
        obtain ⟨j, hj, rfl, hown, hnq, hsq⟩ := hrel
        clear hst0 hsz0
        by_cases hjl : j < zs.length
        · obtain ⟨b2, off2, rfl, hb2, hc2⟩ := ((HSL.out.below hnq (Nat.le_refl _))).at_ hjl
          have hrange := HIN.out j hjl
          have HSN := Lib.hid (HSU.out j hjl)
          have hib := HI0.out j hj
          obtain ⟨z, hz⟩ : ∃ z, zs.getD j 0 = z := ⟨_, rfl⟩
          rw [hz] at hc2 HSN hrange
          clear hz
          obtain ⟨m, rfl⟩ := Int.eq_ofNat_of_zero_le hrange.1
          have hmk : m < k := by omega
          have hrb := HBD.out m hmk
          obtain ⟨q, hq⟩ : ∃ q, inTo zs (rdsTo zss k) j = q := ⟨_, rfl⟩
          rw [hq] at hown HSN hib
          clear hq
          obtain ⟨g1, hg1, _, _, hc3, hf3⟩ := hown.cell_ (j := k) (by rw [stR_length _ _ _ _ hlt]; exact hlt)
          cases hg1
          obtain ⟨g2, hg2, _, _, hc4, hf4⟩ := hown.cell_ (j := m) (by rw [stR_length _ _ _ _ hlt]; omega)
          cases hg2
          rw [stR_at] at hc3
          rw [stR_old _ _ _ _ _ hmk] at hc4
          rw [show ((m : Int)).toNat = m from rfl] at HSN
          obtain ⟨x, hx⟩ : ∃ x, (rdsTo zss k).getD m 0 = x := ⟨_, rfl⟩
          rw [hx] at hc4 HSN hrb
          clear hx
          have S2 := Lib.hid ((hown.stored k (max q (x + 1))).1)
          rw [stR_set] at S2
          have hmn : (m : Int) < (zss.length : Int) := by omega
          have hkn : (k : Int) < (zss.length : Int) := by omega
          clear hown hrange
          go_wp2
          go_region
          have hmx : (if q < x + 1 then x + 1 else q) = max q (x + 1) := by split <;> omega
          rw [hmx]
          have hD : Drew (wr.setCell ⟨w.heap.size, k, none⟩ (.int .i64 (max q (x + 1)))) (wr.setCell ⟨w.heap.size, k, none⟩ (.int .i64 (max q (x + 1)))).drew := ⟨1, rfl⟩
          have HB2 := Lib.hid ((hnq.setCell (p := ⟨w.heap.size, k, none⟩) (Nat.le_refl _) (.int .i64 (max q (x + 1)))).trans (hD.below _))
          have HS2 := Lib.hid (hD.row S2.out)
          have HZ2 := Lib.hid (show w.heap.size + 1 ≤ (wr.setCell ⟨w.heap.size, k, none⟩ (.int .i64 (max q (x + 1)))).drew.heap.size by rw [hD.size]; simpa using hsq)
          clear hD
          obtain ⟨wz, hwz⟩ : ∃ wz, (wr.setCell ⟨w.heap.size, k, none⟩ (.int .i64 (max q (x + 1)))).drew = wz := ⟨_, rfl⟩
          rw [hwz] at HB2 HS2 HZ2 ⊢
          clear hwz
          go_wp2
          go_roundw
          case rel => exact ⟨j + 1, by omega, by go_num, by rw [HSN.out]; exact HS2.out, HB2.out, HZ2.out⟩
          case measure => simp [intOf]; omega
        · have e : j = zs.length := by omega
          subst e
          rw [HFULL.out] at hown
          go_wp2
          go_roundw
          case rel => exact ⟨k + 1, by omega, by go_num, hown, hnq, hsq⟩
          case measure => simp [intOf]; omega
    · have hkl : k = zss.length := by omega
      have HK := Lib.hid hkl
      clear hkl
      go_wp2
      go_ret
      have e := HK.out
      subst e
      rw [stO_full] at hown
      refine ⟨_, rfl, ?_, hnx⟩
      exact hown.wider (Nat.le_refl _) hsz
end
end Go.Proofs.Ytfkccdmjlopleaa
