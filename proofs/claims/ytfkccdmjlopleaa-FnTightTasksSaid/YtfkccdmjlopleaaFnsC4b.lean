/- Contracts: the library's list of one number repeated. -/
import Derived.Test.YtfkccdmjlopleaaFnsC4
namespace Go.Proofs.Ytfkccdmjlopleaa
open Go.RowKit

set_option maxHeartbeats 1600000 in
theorem repeat_any (A : Option Addr) (c : Nat) (m : Int) (n : Nat) (h1 : 1 ≤ n) (h2 : n ≤ 12) (w : World) (hs : Sl w w.heap.size A [m]) :
    Calls Try.prog 38 #[.slice A 1 c, .int .i64 n] w fun e w' => ∃ v, e = .returned v ∧ Row w' w.heap.size w'.heap.size v (List.replicate n m) ∧ Below w.heap.size w w' := by
  obtain ⟨b, off, rfl, hb, hc⟩ := hs.at_ (k := 0) (by simp)
  have hmk := run_make_row' (P := Try.prog) 29 3 (.int .i64 0) 8 Try.underlying29 info_int rfl .i64 .i64 n (by omega) (by omega)
  clear hs
  have hc0 : w.cell? ⟨b, off, none⟩ = some (.int .i64 m) := by simpa using hc
  clear hc
  have h0 := made_row w n (by omega)
  have hcA : (w.alloc (.cells (madeCells #[Value.int .i64 0] n) 3)).cell? ⟨b, off, none⟩ = some (.int .i64 m) := by
    rw [((Below.refl w.heap.size w).alloc (Nat.le_refl _) _).cell (p := ⟨b, off, none⟩) hb]; exact hc0
  have hB0 : Below w.heap.size w (w.alloc (.cells (madeCells #[Value.int .i64 0] n) 3)) := (Below.refl _ _).alloc (Nat.le_refl _) _
  have hz0 : w.heap.size + 1 ≤ (w.alloc (.cells (madeCells #[Value.int .i64 0] n) 3)).heap.size := by simp
  go_enter Try.func38, Try.ntmps38
  go_wp2_with fail
  refine (mul_small n h1 h2 w).mono ?_
  rintro e w' ⟨rfl, rfl⟩
  go_wp2_with (refine wpList_copyM rfl (.tmp 31) (.tmp 32) rfl w.heap.size (w.heap.size + 1) w.heap.size 0 n n n n 1 c 1 _ [m] ⟨b, off, none⟩ rfl rfl h0 rfl (fun j hj => by obtain rfl : j = 0 := (by omega); exact hcA) (Nat.min_eq_left h1).symm (by rw [List.length_replicate]; omega) ?_; intro w3 hr3 hg3)
  have h3 : Row w3 w.heap.size (w.heap.size + 1) (.slice (some ⟨w.heap.size, 0, none⟩) n n) (repT m n 1) := by
    rw [← repT_splice m n 0 1 (by omega), repT_zero] at *; exact hr3
  have hB3 := hB0.grown hg3 (by simp) (fun g e => by cases e; exact Nat.le_refl _)
  have hz3 := Nat.le_trans hz0 hg3.size
  clear hr3 hg3 hB0 hz0 h0 hcA
  go_wp2
  go_loopw [8] (fun i wr => ∃ k : Nat, 1 ≤ k ∧ k ≤ n ∧ i = .int .i64 k ∧ Row wr w.heap.size (w.heap.size + 1) (.slice (some ⟨w.heap.size, 0, none⟩) n n) (repT m n k) ∧ Below w.heap.size w wr ∧ w.heap.size + 1 ≤ wr.heap.size) (fun i _ => n - (intOf i).toNat)
  case atStart => exact ⟨1, Nat.le_refl _, h1, rfl, h3, hB3, hz3⟩
  case round =>
    obtain ⟨k, hk1, hk, rfl, hown, hnx, hsz⟩ := hrel
    clear h3 hB3 hz3
    by_cases hlt : k < n
    · have hkn : (k : Int) < (n : Int) := by omega
      obtain ⟨q, hq⟩ : ∃ q, q = Nat.min k (n - k) := ⟨_, rfl⟩
      have hqm : q ≤ k ∧ k + q ≤ n ∧ 1 ≤ q := by rw [hq, show Nat.min k (n - k) = min k (n - k) from rfl]; omega
      have HQ := Lib.hid hq
      have hD : Drew wr wr.drew := ⟨1, rfl⟩
      have HRow := Lib.hid (hD.row hown)
      have HB := Lib.hid (hnx.trans (hD.below _))
      have HZ : w.heap.size + 1 ≤ wr.drew.heap.size := by rw [hD.size]; exact hsz
      have HL := Lib.hid (repT_len m n k hk)
      have HSRC := Lib.hid (show ∀ j, j < q → wr.drew.cell? ((⟨w.heap.size, 0, none⟩ : Addr).add j) = some (.int .i64 ((List.replicate q m).getD j 0)) from fun j hj => by
        obtain ⟨g', hg', _, _, hcj, _⟩ := (hD.row hown).cell_ (j := j) (by rw [repT_len m n k hk]; omega)
        cases hg'
        rw [repT_at m n k j (by omega)] at hcj
        rw [show (List.replicate q m).getD j 0 = m by simp [List.getD_eq_getElem?_getD, hj]]
        by_cases e0 : j = 0
        · subst e0; exact hcj
        · simpa [Addr.add, e0] using hcj)
      clear hq hown hnx hsz hD
      obtain ⟨hq1, hq2, hq3⟩ := hqm
      have hwr : IntKind.i64.wrap ((k : Int) + (q : Int)) = ((k + q : Nat) : Int) := by rw [IntKind.wrap_i64]; omega
      have hne2 : ¬ n = k := by omega
      go_wp2
      go_region_law (refine step_copyM (by rfl) (.tmp 41) (.tmp 44) (by rfl) w.heap.size (w.heap.size + 1) w.heap.size k n n (n - k) (n - k) k n q (repT m n k) (List.replicate q m) ⟨w.heap.size, 0, none⟩ (by simp [Act.eval, Act.put]) (by simp [Act.eval, Act.put]) HRow.out (by simp) HSRC.out (by first | exact HQ.out | simp [HQ.out]) (by rw [HL.out]; omega) ?_; intro w5 hr5 hg5)
      all_goals (
        rw [repT_splice m n k q hq2] at hr5
        have J1 := Lib.hid hr5
        have J2 := Lib.hid (HB.out.grown hg5 (by omega) (fun g e => by cases e; exact Nat.le_refl _))
        have J3 := Lib.hid (Nat.le_trans HZ hg5.size)
        clear hr5 hg5
        go_simp
        go_wp2
        go_roundw
        case rel => exact ⟨k + q, by omega, by omega, by first | rfl | rw [hwr], J1.out, J2.out, J3.out⟩
        case measure => first | (rw [hwr]; simp [intOf]; omega) | (simp [intOf]; omega))
    · have e : k = n := by omega
      subst e
      rw [repT_full] at hown
      go_wp2
      go_ret
      exact ⟨_, rfl, hown.wider (Nat.le_refl _) hsz, hnx⟩
end Go.Proofs.Ytfkccdmjlopleaa
