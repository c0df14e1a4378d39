/- Contracts: valid matrices. -/
import Derived.Test.YtilmglockldddaaScal
import Derived.Test.YtilmglockldddaaSpan
namespace Go.Proofs.Ytilmglockldddaa
open Go.RowKit

def okR (zs : List Int) (k : Nat) : Prop := ∀ j, j < k → 0 ≤ zs.getD j 0 ∧ zs.getD j 0 ≤ 4095
theorem okR_zero (zs : List Int) : okR zs 0 := fun _ h => absurd h (by omega)
theorem okR_succ {zs : List Int} {k : Nat} (h : okR zs k) (h1 : 0 ≤ zs.getD k 0) (h2 : zs.getD k 0 ≤ 4095) : okR zs (k + 1) := fun j hj => by
  by_cases e : j = k
  · subst e; exact ⟨h1, h2⟩
  · exact h j (by omega)
/-- A valid matrix: r rows, c columns, the values zs. -/
def OkM (r c : Int) (zs : List Int) : Prop := (1 ≤ r ∧ r ≤ 5) ∧ (1 ≤ c ∧ c ≤ 5) ∧ (zs.length : Int) = r * c ∧ okR zs zs.length
theorem side_mul {r c : Int} (h1 : 1 ≤ r ∧ r ≤ 5) (h2 : 1 ≤ c ∧ c ≤ 5) : 1 ≤ r * c ∧ r * c ≤ 25 := by
  have a1 : 1 * c ≤ r * c := Int.mul_le_mul_of_nonneg_right h1.1 (by omega)
  have a2 : r * c ≤ 5 * c := Int.mul_le_mul_of_nonneg_right h1.2 (by omega)
  omega
theorem OkM.len {r c : Int} {zs : List Int} (h : OkM r c zs) : 1 ≤ zs.length ∧ zs.length ≤ 25 := by
  have := side_mul h.1 h.2.1
  have := h.2.2.1
  omega
/-- The value of a matrix. -/
abbrev matV (r c : Int) (s : Value) : Value := .agg #[.int .i64 r, .int .i64 c, s]

theorem sideValid_yes (n : Int) (w : World) (h1 : 1 ≤ n) (h2 : n ≤ 5) : Calls Try.prog 38 #[.int .i64 n] w fun e w' => e = .returned (.bool true) ∧ w = w' := by
  go_enter Try.func38, Try.ntmps38
  go_wp2
  go_ret
  exact ⟨rfl, rfl⟩
theorem sideValid_no (n : Int) (w : World) (h : n < 1 ∨ 5 < n) : Calls Try.prog 38 #[.int .i64 n] w fun e w' => e = .returned (.bool false) ∧ w = w' := by
  rcases h with h | h
  · go_enter Try.func38, Try.ntmps38
    go_wp2
    go_ret
    exact ⟨rfl, rfl⟩
  · have hd : decide (n ≤ 5) = false := by simp; omega
    go_enter Try.func38, Try.ntmps38
    go_wp2
    go_ret
    exact ⟨rfl, rfl⟩

theorem allRing_any (A : Option Addr) (c n B : Nat) (zs : List Int) (w : World) (hs : Sl w B A zs) (e : n = zs.length) (hn : n ≤ 4611686018427387904) (ob : Bool) (hob : ob = true ↔ okR zs zs.length) :
    Calls Try.prog 52 #[.slice A n c] w fun e w' => e = .returned (.bool ob) ∧ w = w' := by
  subst e
  have HS := Lib.hid hs
  clear hs
  have obT := Lib.hid (fun h : okR zs zs.length => hob.2 h)
  have obF := Lib.hid (fun h : ¬ okR zs zs.length => show ob = false by cases ob; rfl; exact absurd (hob.1 rfl) h)
  clear hob
  go_enter Try.func52, Try.ntmps52
  go_wp2
  go_loop [7] (fun i => ∃ k : Nat, k ≤ zs.length ∧ i = .int .i64 k ∧ okR zs k) (fun i => zs.length - (intOf i).toNat)
  case atStart => exact ⟨0, Nat.zero_le _, rfl, okR_zero _⟩
  case round =>
    obtain ⟨k, hk, rfl, hok⟩ := hrel
    have HOK := Lib.hid hok
    clear hok
    by_cases hlt : k < zs.length
    · obtain ⟨b, off, rfl, _, hc⟩ := HS.out.at_ hlt
      have HN := Lib.hid (fun (h : zs.getD k 0 < 0 ∨ 4095 < zs.getD k 0) => (show ¬ okR zs zs.length from fun hh => by have := hh k hlt; omega))
      have HSU := Lib.hid (fun a b => okR_succ (k := k) HOK.out a b)
      obtain ⟨z, hz⟩ : ∃ z, zs.getD k 0 = z := ⟨_, rfl⟩
      rw [hz] at hc HN HSU
      clear hz
      by_cases hv : 0 ≤ z ∧ z ≤ 4095
      · go_wp2_with fail
        refine (ringValid_yes _ _ hv.1 hv.2).mono ?_
        rintro e w' ⟨rfl, rfl⟩
        go_wp2
        go_round
        case rel => exact ⟨k + 1, by omega, by go_num, HSU.out hv.1 hv.2⟩
        case measure => simp [intOf]; omega
      · have hv' : z < 0 ∨ 4095 < z := by omega
        clear hv
        go_wp2_with fail
        refine (ringValid_no _ _ hv').mono ?_
        rintro e w' ⟨rfl, rfl⟩
        go_wp2
        go_ret
        exact ⟨by rw [obF.out (HN.out hv')]; rfl, rfl⟩
    · have e : k = zs.length := by omega
      subst e
      go_wp2
      go_ret
      exact ⟨by rw [obT.out HOK.out]; rfl, rfl⟩

theorem implMV_any (r c : Int) (A : Option Addr) (cap n B : Nat) (zs : List Int) (w : World) (hs : Sl w B A zs) (hB : B ≤ w.heap.size) (e : n = zs.length) (hn : n ≤ 4611686018427387904) (ob : Bool) (hob : ob = true ↔ OkM r c zs) :
    Calls Try.prog 25 #[matV r c (.slice A n cap)] w fun e w' => e = .returned (.bool ob) ∧ Below w.heap.size w w' := by
  subst e
  have HS := Lib.hid hs
  clear hs
  have obT := Lib.hid (fun h : OkM r c zs => hob.2 h)
  have obF := Lib.hid (fun h : ¬ OkM r c zs => show ob = false by cases ob; rfl; exact absurd (hob.1 rfl) h)
  clear hob
  have hb : Below w.heap.size w (w.alloc (.cells #[.int .i64 r, .int .i64 c, .slice A zs.length cap] 33)) := (Below.refl _ _).alloc (Nat.le_refl _) _
  have HS2 := Lib.hid (HS.out.below hb hB)
  by_cases h1 : 1 ≤ r ∧ r ≤ 5
  · by_cases h2 : 1 ≤ c ∧ c ≤ 5
    · have hm := side_mul h1 h2
      obtain ⟨q, hq⟩ : ∃ q, r * c = q := ⟨_, rfl⟩
      rw [hq] at hm
      by_cases h3 : (zs.length : Int) = q
      · have HOB := Lib.hid (show ob = true ↔ okR zs zs.length from ⟨fun e => by
            apply Classical.byContradiction
            intro hh
            rw [obF.out (fun h => hh h.2.2.2)] at e
            exact absurd e (by simp), fun h => obT.out ⟨h1, h2, by rw [hq]; exact h3, h⟩⟩)
        clear obT obF
        go_enter Try.func25, Try.ntmps25
        go_wp2_with fail
        refine (sideValid_yes _ _ h1.1 h1.2).mono ?_
        rintro e w' ⟨rfl, rfl⟩
        go_wp2_with fail
        refine (sideValid_yes _ _ h2.1 h2.2).mono ?_
        rintro e w' ⟨rfl, rfl⟩
        go_wp2_with fail
        refine (allRing_any A cap _ B zs _ HS2.out rfl hn ob HOB.out).mono ?_
        rintro e w' ⟨rfl, rfl⟩
        go_wp2
        go_ret
        exact ⟨rfl, hb⟩
      · have HF := Lib.hid (obF.out (fun h => h3 (by rw [← hq]; exact h.2.2.1)))
        have h3' : ((zs.length : Int) == q) = false := by simpa using h3
        clear obT obF h3
        go_enter Try.func25, Try.ntmps25
        go_wp2_with fail
        refine (sideValid_yes _ _ h1.1 h1.2).mono ?_
        rintro e w' ⟨rfl, rfl⟩
        go_wp2_with fail
        refine (sideValid_yes _ _ h2.1 h2.2).mono ?_
        rintro e w' ⟨rfl, rfl⟩
        go_wp2
        go_ret
        exact ⟨by rw [HF.out]; rfl, hb⟩
    · have HF := Lib.hid (obF.out (fun h => h2 h.2.1))
      have h2' : c < 1 ∨ 5 < c := by omega
      clear obT obF h2
      go_enter Try.func25, Try.ntmps25
      go_wp2_with fail
      refine (sideValid_yes _ _ h1.1 h1.2).mono ?_
      rintro e w' ⟨rfl, rfl⟩
      go_wp2_with fail
      refine (sideValid_no _ _ h2').mono ?_
      rintro e w' ⟨rfl, rfl⟩
      go_wp2
      go_ret
      exact ⟨by rw [HF.out]; rfl, hb⟩
  · have HF := Lib.hid (obF.out (fun h => h1 h.1))
    have h1' : r < 1 ∨ 5 < r := by omega
    clear obT obF h1
    go_enter Try.func25, Try.ntmps25
    go_wp2_with fail
    refine (sideValid_no _ _ h1').mono ?_
    rintro e w' ⟨rfl, rfl⟩
    go_wp2
    go_ret
    exact ⟨by rw [HF.out]; rfl, hb⟩
end Go.Proofs.Ytilmglockldddaa
