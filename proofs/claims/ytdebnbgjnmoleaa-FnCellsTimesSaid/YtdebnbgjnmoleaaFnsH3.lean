/- Contracts: valid cells, the program's. -/
import Derived.Test.YtdebnbgjnmoleaaListsC
import Derived.Test.YtdebnbgjnmoleaaRowLen
import Derived.Test.YtdebnbgjnmoleaaDrw
namespace Go.Proofs.Ytdebnbgjnmoleaa
open Go.RowKit

theorem tri_mul {p cols : Int} (hp : 0 ≤ p ∧ p < 5) (hc : 1 ≤ cols ∧ cols ≤ 5) : 0 ≤ p * cols ∧ p * cols ≤ 20 := by
  have h1 : 0 ≤ p * cols := Int.mul_nonneg hp.1 (by omega)
  have h2 : p * cols ≤ 4 * cols := Int.mul_le_mul_of_nonneg_right (by omega) (by omega)
  omega
theorem lastC_bound {rows cols : Int} {ts : List Tri} (hr : rows ≤ 5) (hc : 1 ≤ cols ∧ cols ≤ 5) {k : Nat} (h : okCto rows cols ts k) : -1 ≤ lastC cols ts k ∧ lastC cols ts k ≤ 24 := by
  cases k with
  | zero => simp [lastC]
  | succ k =>
    obtain ⟨h1, h2, _⟩ := h k (by omega)
    have := tri_mul (p := (ts.getD k t0).1) ⟨h1.1, by omega⟩ hc
    show -1 ≤ plc cols (ts.getD k t0) ∧ plc cols (ts.getD k t0) ≤ 24
    unfold plc
    omega
set_option maxHeartbeats 1600000 in
theorem cellsValid_any (rows cols : Int) (A : Option Addr) (cap B : Nat) (ts : List Tri) (w : World) (hs : Sl w B A (fl ts)) (hB : B ≤ w.heap.size) (hn : ts.length ≤ 2000000) (ob : Bool) (hob : ob = true ↔ OkC rows cols ts) :
    Calls Try.prog 51 #[.int .i64 rows, .int .i64 cols, .slice A ts.length cap] w fun e w' => e = .returned (.bool ob) ∧ Below w.heap.size w w' := by
  have HS := Lib.hid hs
  clear hs
  have obT := Lib.hid (fun h : OkC rows cols ts => hob.2 h)
  have obF := Lib.hid (fun h : ¬ OkC rows cols ts => show ob = false by cases ob; rfl; exact absurd (hob.1 rfl) h)
  clear hob
  by_cases h1 : 1 ≤ rows ∧ rows ≤ 5
  · by_cases h2 : 1 ≤ cols ∧ cols ≤ 5
    · go_enter Try.func51, Try.ntmps51
      go_wp2_with fail
      refine (sideValid_yes _ _ h1.1 h1.2).mono ?_
      rintro e w' ⟨rfl, rfl⟩
      go_wp2_with fail
      refine (sideValid_yes _ _ h2.1 h2.2).mono ?_
      rintro e w' ⟨rfl, rfl⟩
      go_wp2
      go_loopw [7, 21] (fun l i wr => ∃ k : Nat, k ≤ ts.length ∧ i = .int .i64 k ∧ l = .int .i64 (lastC cols ts k) ∧ okCto rows cols ts k ∧ Below w.heap.size w wr) (fun _ i _ => ts.length - (intOf i).toNat)
      case atStart => exact ⟨0, Nat.zero_le _, rfl, rfl, okCto_zero _ _ _, Below.refl _ _⟩
      case round =>
        obtain ⟨k, hk, rfl, rfl, hok, hbel⟩ := hrel
        have hlb := lastC_bound h1.2 h2 hok
        have HOK := Lib.hid hok
        clear hok
        by_cases hlt : k < ts.length
        · obtain ⟨b, off, rfl, hbB, c0, c1, c2⟩ := (HS.out.below hbel (by omega)).tri hlt
          have HSU := Lib.hid (fun h => okCto_succ (k := k) HOK.out h)
          have HNO := Lib.hid (fun (h : ¬ okC1 rows cols (lastC cols ts k) (ts.getD k t0)) => obF.out (fun hh => h (hh.2.2 k hlt)))
          have HL : Hid (lastC cols ts (k + 1) = plc cols (ts.getD k t0)) := rfl
          obtain ⟨l, hl⟩ : ∃ l, lastC cols ts k = l := ⟨_, rfl⟩
          obtain ⟨t, ht⟩ : ∃ t, ts.getD k t0 = t := ⟨_, rfl⟩
          rw [hl] at hlb HSU HNO
          rw [ht] at c0 c1 c2 HSU HNO HL
          simp only [hl]
          obtain ⟨p, q, z⟩ := t
          simp only at c0 c1 c2
          have HBA := Lib.hid (hbel.alloc hbel.size (.cells #[.int .i64 p, .int .i64 q, .int .i64 z] 59))
          have KN := Cell3.new wr (.int .i64 p) (.int .i64 q) (.int .i64 z) 59
          have hki : (k : Int) < (ts.length : Int) := by omega
          have hok1 : okC1 rows cols l (p, q, z) ↔ (0 ≤ p ∧ p < rows) ∧ (0 ≤ q ∧ q < cols) ∧ (0 ≤ z ∧ z ≤ 4095) ∧ z ≠ 0 ∧ l < p * cols + q := Iff.rfl
          have HOK1 := Lib.hid hok1
          have hpl : plc cols (p, q, z) = p * cols + q := rfl
          have HPL := Lib.hid hpl
          obtain ⟨v0, v1, v2, _, _, _, vlt⟩ := KN
          clear hl ht hok1 hpl hbel
          by_cases a1 : p < 0
          · go_wp2
            go_ret
            exact ⟨by rw [HNO.out (fun h => by have := (HOK1.out.1 h).1; omega)]; rfl, HBA.out⟩
          by_cases a2 : rows ≤ p
          · go_wp2
            go_ret
            exact ⟨by rw [HNO.out (fun h => by have := (HOK1.out.1 h).1; omega)]; rfl, HBA.out⟩
          by_cases a3 : q < 0
          · go_wp2
            go_ret
            exact ⟨by rw [HNO.out (fun h => by have := (HOK1.out.1 h).2.1; omega)]; rfl, HBA.out⟩
          by_cases a4 : cols ≤ q
          · go_wp2
            go_ret
            exact ⟨by rw [HNO.out (fun h => by have := (HOK1.out.1 h).2.1; omega)]; rfl, HBA.out⟩
          have hmb := tri_mul (p := p) (cols := cols) ⟨by omega, by omega⟩ h2
          obtain ⟨m, hm⟩ : ∃ m, p * cols = m := ⟨_, rfl⟩
          rw [hm] at hmb HOK1 HPL
          obtain ⟨pl, hple⟩ : ∃ pl, m + q = pl := ⟨_, rfl⟩
          rw [hple] at HOK1 HPL
          have hplb : 0 ≤ pl ∧ pl ≤ 24 := by omega
          have hwm : IntKind.i64.wrap m = m := by rw [IntKind.wrap_i64]; omega
          have hwp : IntKind.i64.wrap pl = pl := by rw [IntKind.wrap_i64]; omega
          by_cases a5 : pl ≤ l
          · go_wp2
            go_ret
            exact ⟨by rw [HNO.out (fun h => by have := (HOK1.out.1 h).2.2.2.2; omega)]; rfl, HBA.out⟩
          by_cases a6 : 0 ≤ z ∧ z ≤ 4095
          · by_cases a7 : z = 0
            · subst a7
              go_wp2_with fail
              refine (ringValid_yes _ _ a6.1 a6.2).mono ?_
              rintro e w' ⟨rfl, rfl⟩
              go_wp2
              go_ret
              exact ⟨by rw [HNO.out (fun h => (HOK1.out.1 h).2.2.2.1 rfl)]; rfl, HBA.out⟩
            · have hz0 : (z == 0) = false := by simpa using a7
              have HSU2 := Lib.hid (HSU.out (HOK1.out.2 ⟨⟨by omega, by omega⟩, ⟨by omega, by omega⟩, a6, a7, by omega⟩))
              go_wp2_with fail
              refine (ringValid_yes _ _ a6.1 a6.2).mono ?_
              rintro e w' ⟨rfl, rfl⟩
              go_wp2
              go_roundw
              case rel => exact ⟨k + 1, by omega, by go_num, by rw [HL.out, HPL.out], HSU2.out, HBA.out⟩
              case measure => simp [intOf]; omega
          · have a6' : z < 0 ∨ 4095 < z := by omega
            clear a6
            go_wp2_with fail
            refine (ringValid_no _ _ a6').mono ?_
            rintro e w' ⟨rfl, rfl⟩
            go_wp2
            go_ret
            exact ⟨by rw [HNO.out (fun h => by have := (HOK1.out.1 h).2.2.1; omega)]; rfl, HBA.out⟩
        · have e : k = ts.length := by omega
          subst e
          go_wp2
          go_ret
          exact ⟨by rw [obT.out ⟨h1, h2, HOK.out⟩]; rfl, hbel⟩
    · have HF := Lib.hid (obF.out (fun h => h2 h.2.1))
      have h2' : cols < 1 ∨ 5 < cols := by omega
      clear obT obF h2
      go_enter Try.func51, Try.ntmps51
      go_wp2_with fail
      refine (sideValid_yes _ _ h1.1 h1.2).mono ?_
      rintro e w' ⟨rfl, rfl⟩
      go_wp2_with fail
      refine (sideValid_no _ _ h2').mono ?_
      rintro e w' ⟨rfl, rfl⟩
      go_wp2
      go_ret
      exact ⟨by rw [HF.out]; rfl, Below.refl _ _⟩
  · have HF := Lib.hid (obF.out (fun h => h1 h.1))
    have h1' : rows < 1 ∨ 5 < rows := by omega
    clear obT obF h1
    go_enter Try.func51, Try.ntmps51
    go_wp2_with fail
    refine (sideValid_no _ _ h1').mono ?_
    rintro e w' ⟨rfl, rfl⟩
    go_wp2
    go_ret
    exact ⟨by rw [HF.out]; rfl, Below.refl _ _⟩
end Go.Proofs.Ytdebnbgjnmoleaa
