/- Contracts: valid orders, the reference's. -/
import Derived.Test.YtilmglockldddaaFnsD1
namespace Go.Proofs.Ytilmglockldddaa
open Go.RowKit

theorem info_bool : (Try.prog.info? 4).map (fun i => (i.zero, i.size, i.bytes)) = some (some (.bool false), 1, 1) := by kernel_rfl
theorem madeCells_bools (n : Nat) : (madeCells #[Value.bool false] n).toList = (List.replicate n false).map Value.bool := by rw [toList_madeCells_one]; simp

theorem specOV_any (A : Option Addr) (c : Nat) (zs : List Int) (w : World) (hs : Sl w w.heap.size A zs) (hn : zs.length ≤ 2000000) (ob : Bool) (hob : ob = true ↔ OkO zs) :
    Calls Try.prog 9 #[.slice A zs.length c] w fun e w' => e = .returned (.bool ob) ∧ Below w.heap.size w w' := by
  have HS := Lib.hid hs
  clear hs
  have obT := Lib.hid (fun h : OkO zs => hob.2 h)
  have obF := Lib.hid (fun h : ¬ OkO zs => show ob = false by cases ob; rfl; exact absurd (hob.1 rfl) h)
  clear hob
  have hmk := run_make_row' (P := Try.prog) 58 4 (.bool false) 1 Try.underlying58 info_bool rfl .i64 .i64 zs.length (by omega) (by omega)
  have h0 : BRow (w.alloc (.cells (madeCells #[.bool false] zs.length) 4)) w.heap.size 4 w.heap.size zs.length (tks zs 0 zs.length) := by
    unfold BRow
    rw [tks_zero, ← madeCells_bools]
    exact World.ownsRow_lit w _ _ (Nat.le_refl _) (by simp only [maxLen]; omega) (by simp [madeCells])
  go_enter Try.func9, Try.ntmps9
  go_wp2
  clear hmk
  go_loopw [4] (fun i wr => ∃ k : Nat, k ≤ zs.length ∧ i = .int .i64 k ∧ okOTo zs k ∧ BRow wr w.heap.size 4 w.heap.size zs.length (tks zs k zs.length) ∧ Below w.heap.size w wr) (fun i _ => zs.length - (intOf i).toNat)
  case atStart => exact ⟨0, Nat.zero_le _, rfl, okOTo_zero zs, h0, (Below.refl _ _).alloc (Nat.le_refl _) _⟩
  case round =>
    obtain ⟨k, hk, rfl, hok, hrow, hnx⟩ := hrel
    clear h0
    have HOK := Lib.hid hok
    clear hok
    by_cases hlt : k < zs.length
    · obtain ⟨b, off, rfl, _, hc⟩ := (HS.out.below hnx (Nat.le_refl _)).at_ hlt
      have HN := Lib.hid (fun h => not_okO_range (zs := zs) hlt h)
      have HN2 := Lib.hid (fun m hm ht => not_okO_twice (zs := zs) (m := m) hlt hm ht)
      have HSU := Lib.hid (fun m hm hl ht => okOTo_succ (zs := zs) (m := m) HOK.out hlt hm hl ht)
      have HTS := Lib.hid (fun m hm => tks_succ zs k zs.length m hlt hm)
      obtain ⟨z, hz⟩ : ∃ z, zs.getD k 0 = z := ⟨_, rfl⟩
      rw [hz] at hc HN HN2 HSU HTS
      clear hz
      by_cases hin : 0 ≤ z ∧ z < zs.length
      · obtain ⟨m, rfl⟩ := Int.eq_ofNat_of_zero_le hin.1
        have hmn : m < zs.length := by omega
        obtain ⟨hcell, hfz⟩ := hrow.at_ hmn (tks_get zs k zs.length m hmn)
        have S := Lib.hid (hrow.set m true)
        clear hrow
        rcases ht : tk zs k m with _ | _
        · rw [ht] at hcell
          have HT := Lib.hid ht
          clear ht
          go_wp2_with fail
          refine (l1In_yes _ _ _ _ (by omega) (by omega)).mono ?_
          rintro e w' ⟨rfl, rfl⟩
          go_wp2
          go_roundw
          case rel => exact ⟨k + 1, by omega, by go_num, HSU.out m rfl (by omega) HT.out, by rw [HTS.out m rfl]; exact S.out, hnx.setCell (Nat.le_refl _) _⟩
          case measure => simp [intOf]; omega
        · rw [ht] at hcell
          have HT := Lib.hid ht
          clear ht
          go_wp2_with fail
          refine (l1In_yes _ _ _ _ (by omega) (by omega)).mono ?_
          rintro e w' ⟨rfl, rfl⟩
          go_wp2
          go_ret
          exact ⟨by rw [obF.out (HN2.out m rfl HT.out)]; rfl, hnx⟩
      · have hin' : z < 0 ∨ (zs.length : Int) ≤ z := by omega
        clear hin
        go_wp2_with fail
        refine (l1In_no _ _ _ _ (by omega)).mono ?_
        rintro e w' ⟨rfl, rfl⟩
        go_wp2
        go_ret
        exact ⟨by rw [obF.out (HN.out hin')]; rfl, hnx⟩
    · have e : k = zs.length := by omega
      subst e
      by_cases hl : 1 ≤ zs.length ∧ zs.length ≤ 5
      · go_wp2_with fail
        refine (l1In_yes _ _ _ _ (by omega) (by omega)).mono ?_
        rintro e w' ⟨rfl, rfl⟩
        go_wp2
        go_ret
        exact ⟨by rw [obT.out ⟨hl, HOK.out⟩]; rfl, hnx⟩
      · go_wp2_with fail
        refine (l1In_no _ _ _ _ (by omega)).mono ?_
        rintro e w' ⟨rfl, rfl⟩
        go_wp2
        go_ret
        exact ⟨by rw [obF.out (fun h => hl h.1)]; rfl, hnx⟩
open Classical in
noncomputable def okOB (zs : List Int) : Bool := decide (OkO zs)
theorem okOB_iff (zs : List Int) : okOB zs = true ↔ OkO zs := by simp [okOB]
end Go.Proofs.Ytilmglockldddaa
