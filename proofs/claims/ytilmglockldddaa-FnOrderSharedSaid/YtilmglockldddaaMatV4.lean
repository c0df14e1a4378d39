/- Contract: valid matrices, the reference's. -/
import Derived.Test.YtilmglockldddaaMatV3
namespace Go.Proofs.Ytilmglockldddaa
open Go.RowKit

theorem specMV_any (r c : Int) (A : Option Addr) (cap n B : Nat) (zs : List Int) (w : World) (hs : Sl w B A zs) (hB : B ≤ w.heap.size) (e : n = zs.length) (hn : n ≤ 4611686018427387904) (ob : Bool) (hob : ob = true ↔ OkM r c zs) :
    Calls Try.prog 45 #[matV r c (.slice A n cap)] w fun e w' => e = .returned (.bool ob) ∧ Below w.heap.size w w' := by
  subst e
  have obT := Lib.hid (fun h : OkM r c zs => hob.2 h)
  have obF := Lib.hid (fun h : ¬ OkM r c zs => show ob = false by cases ob; rfl; exact absurd (hob.1 rfl) h)
  clear hob
  have q0 := Cell3.new w (.int .i64 r) (.int .i64 c) (.slice A zs.length cap) 33
  obtain ⟨W, hW⟩ : ∃ W, w.alloc (.cells #[.int .i64 r, .int .i64 c, .slice A zs.length cap] 33) = W := ⟨_, rfl⟩
  have hb : Below w.heap.size w W := hW ▸ (Below.refl _ _).alloc (Nat.le_refl _) _
  have HS := Lib.hid (hs.below hb hB)
  rw [hW] at q0
  clear hs
  obtain ⟨a0, a1, a2, _, _, _, alt⟩ := q0
  go_enter Try.func45, Try.ntmps45
  go_wp2
  go_loop [3] (fun i => ∃ k : Nat, k ≤ zs.length ∧ i = .int .i64 k ∧ okR zs k) (fun i => zs.length - (intOf i).toNat)
  case atStart => exact ⟨0, Nat.zero_le _, rfl, okR_zero _⟩
  case round =>
    obtain ⟨k, hk, rfl, hok⟩ := hrel
    have HOK := Lib.hid hok
    clear hok
    by_cases hlt : k < zs.length
    · obtain ⟨b, off, rfl, _, hc⟩ := HS.out.at_ hlt
      have HN := Lib.hid (fun (h : zs.getD k 0 < 0 ∨ 4095 < zs.getD k 0) => (show ¬ OkM r c zs from fun hh => by have := hh.2.2.2 k hlt; omega))
      have HSU := Lib.hid (fun a b => okR_succ (k := k) HOK.out a b)
      obtain ⟨z, hz⟩ : ∃ z, zs.getD k 0 = z := ⟨_, rfl⟩
      rw [hz] at hc HN HSU
      clear hz
      by_cases hv : 0 ≤ z ∧ z ≤ 4095
      · go_wp2_with fail
        refine (specRingValid_yes _ _ hv.1 hv.2).mono ?_
        rintro e w' ⟨rfl, rfl⟩
        go_wp2
        go_round
        case rel => exact ⟨k + 1, by omega, by go_num, HSU.out hv.1 hv.2⟩
        case measure => simp [intOf]; omega
      · have hv' : z < 0 ∨ 4095 < z := by omega
        clear hv
        go_wp2_with fail
        refine (specRingValid_no _ _ hv').mono ?_
        rintro e w' ⟨rfl, rfl⟩
        go_wp2
        go_ret
        exact ⟨by rw [obF.out (HN.out hv')]; rfl, hb⟩
    · have e : k = zs.length := by omega
      subst e
      by_cases h1 : 1 ≤ r ∧ r ≤ 5
      · by_cases h2 : 1 ≤ c ∧ c ≤ 5
        · have hm := side_mul h1 h2
          obtain ⟨q, hq⟩ : ∃ q, r * c = q := ⟨_, rfl⟩
          rw [hq] at hm
          obtain ⟨t, ht⟩ : ∃ t : Bool, ((zs.length : Int) == q) = t := ⟨_, rfl⟩
          have HO : Hid (ob = t) := Lib.hid (by
            cases t with
            | true => exact obT.out ⟨h1, h2, by rw [hq]; exact beq_iff_eq.1 ht, HOK.out⟩
            | false => exact obF.out (fun h => by have := h.2.2.1; rw [hq] at this; rw [beq_eq_false_iff_ne] at ht; exact ht this))
          clear obT obF
          go_wp2_with fail
          refine (l1In_yes _ _ _ _ h1.1 h1.2).mono ?_
          rintro e w' ⟨rfl, rfl⟩
          go_wp2_with fail
          refine (l1In_yes _ _ _ _ h2.1 h2.2).mono ?_
          rintro e w' ⟨rfl, rfl⟩
          go_wp2
          go_ret
          exact ⟨by rw [HO.out]; rfl, hb⟩
        · have HF := Lib.hid (obF.out (fun h => h2 h.2.1))
          have h2' : c < 1 ∨ 5 < c := by omega
          clear obT obF h2
          go_wp2_with fail
          refine (l1In_yes _ _ _ _ h1.1 h1.2).mono ?_
          rintro e w' ⟨rfl, rfl⟩
          go_wp2_with fail
          refine (l1In_no _ _ _ _ h2').mono ?_
          rintro e w' ⟨rfl, rfl⟩
          go_wp2
          go_ret
          exact ⟨by rw [HF.out]; rfl, hb⟩
      · have HF := Lib.hid (obF.out (fun h => h1 h.1))
        have h1' : r < 1 ∨ 5 < r := by omega
        clear obT obF h1
        go_wp2_with fail
        refine (l1In_no _ _ _ _ h1').mono ?_
        rintro e w' ⟨rfl, rfl⟩
        go_wp2
        go_ret
        exact ⟨by rw [HF.out]; rfl, hb⟩
section
variable (r c : Int) (A : Option Addr) (cap n B : Nat) (zs : List Int) (w : World) (hs : Sl w B A zs) (hB : B ≤ w.heap.size) (e : n = zs.length) (hn : n ≤ 4611686018427387904)
include hs hB e hn
theorem implMV_yes (h : OkM r c zs) : Calls Try.prog 25 #[matV r c (.slice A n cap)] w fun e w' => e = .returned (.bool true) ∧ Below w.heap.size w w' := implMV_any r c A cap n B zs w hs hB e hn true ⟨fun _ => h, fun _ => rfl⟩
theorem implMV_no (h : ¬ OkM r c zs) : Calls Try.prog 25 #[matV r c (.slice A n cap)] w fun e w' => e = .returned (.bool false) ∧ Below w.heap.size w w' := implMV_any r c A cap n B zs w hs hB e hn false ⟨fun e => by simp at e, fun e => absurd e h⟩
theorem specMV_yes (h : OkM r c zs) : Calls Try.prog 45 #[matV r c (.slice A n cap)] w fun e w' => e = .returned (.bool true) ∧ Below w.heap.size w w' := specMV_any r c A cap n B zs w hs hB e hn true ⟨fun _ => h, fun _ => rfl⟩
theorem specMV_no (h : ¬ OkM r c zs) : Calls Try.prog 45 #[matV r c (.slice A n cap)] w fun e w' => e = .returned (.bool false) ∧ Below w.heap.size w w' := specMV_any r c A cap n B zs w hs hB e hn false ⟨fun e => by simp at e, fun e => absurd e h⟩
end
end Go.Proofs.Ytilmglockldddaa
