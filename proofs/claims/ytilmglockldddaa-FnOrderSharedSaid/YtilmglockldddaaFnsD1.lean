/- Contracts: valid orders. -/
import Derived.Test.YtilmglockldddaaScal
import Derived.Test.YtilmglockldddaaMatV
import Derived.Test.YtilmglockldddaaLists2
import Derived.Test.YtilmglockldddaaPlainD
namespace Go.Proofs.Ytilmglockldddaa
open Go.RowKit

/-- A row of bools in block g. -/
def BRow (w : World) (lo : Nat) (e : TypeId) (g n : Nat) (bs : List Bool) : Prop := w.ownsRow lo e 1 (.slice (some ⟨g, 0, none⟩) n n) n (bs.map Value.bool)
theorem BRow.at_ {w : World} {lo g n : Nat} {e : TypeId} {bs : List Bool} (h : BRow w lo e g n bs) {j : Nat} (hj : j < n) {b : Bool} (hb : bs[j]? = some b) : w.cell? ⟨g, j, none⟩ = some (.bool b) ∧ w.frozen? ⟨g, j, none⟩ = false := by
  refine ⟨?_, h.frozenAt j⟩
  rw [World.ownsRow.cellAt h j (by omega), List.getElem?_map, hb]
  rfl
theorem BRow.set {w : World} {lo g n : Nat} {e : TypeId} {bs : List Bool} (h : BRow w lo e g n bs) (j : Nat) (b : Bool) : BRow (w.setCell ⟨g, j, none⟩ (.bool b)) lo e g n (bs.set j b) := by
  have := (World.ownsRow.stored h j (.bool b)).1
  rwa [← List.map_set] at this

theorem implOV_any (A : Option Addr) (c : Nat) (zs : List Int) (w : World) (hs : Sl w w.heap.size A zs) (hn : zs.length ≤ 4611686018427387904) (ob : Bool) (hob : ob = true ↔ OkO zs) :
    Calls Try.prog 11 #[.slice A zs.length c] w fun e w' => e = .returned (.bool ob) ∧ Below w.heap.size w w' := by
  have HS := Lib.hid hs
  clear hs
  have obT := Lib.hid (fun h : OkO zs => hob.2 h)
  have obF := Lib.hid (fun h : ¬ OkO zs => show ob = false by cases ob; rfl; exact absurd (hob.1 rfl) h)
  clear hob
  by_cases hl : 1 ≤ zs.length ∧ zs.length ≤ 5
  · obtain ⟨l0, l1⟩ := hl
    have h0 : BRow (w.alloc (.cells #[.bool false, .bool false, .bool false, .bool false, .bool false] 61)) w.heap.size 61 w.heap.size 5 (tks zs 0 5) := by
      rw [tks_zero]
      exact World.ownsRow_lit w _ _ (Nat.le_refl _) (by simp [maxLen]) rfl
    go_enter Try.func11, Try.ntmps11
    go_wp2_with fail
    refine (sideValid_yes _ _ (by omega) (by omega)).mono ?_
    rintro e w' ⟨rfl, rfl⟩
    go_wp2
    go_loopw [12] (fun i wr => ∃ k : Nat, k ≤ zs.length ∧ i = .int .i64 k ∧ okOTo zs k ∧ BRow wr w.heap.size 61 w.heap.size 5 (tks zs k 5) ∧ Below w.heap.size w wr) (fun i _ => zs.length - (intOf i).toNat)
    case atStart => exact ⟨0, Nat.zero_le _, rfl, okOTo_zero zs, h0, (Below.refl _ _).alloc (Nat.le_refl _) _⟩
    case round =>
      obtain ⟨k, hk, rfl, hok, hrow, hnx⟩ := hrel
      clear h0
      have HOK := Lib.hid hok
      clear hok
      by_cases hlt : k < zs.length
      · obtain ⟨b, off, rfl, _, hc⟩ := (HS.out.below hnx (Nat.le_refl _)).at_ hlt
        have HN := Lib.hid (fun h => not_okO_range (zs := zs) hlt h)
        have HN2 := Lib.hid (fun m hm ht => not_okO_twice (zs := zs) (m := m) hlt hm ht)
        have HSU := Lib.hid (fun m hm hl ht => okOTo_succ (zs := zs) (m := m) HOK.out hlt hm hl ht)
        have HTS := Lib.hid (fun m hm => tks_succ zs k 5 m hlt hm)
        obtain ⟨z, hz⟩ : ∃ z, zs.getD k 0 = z := ⟨_, rfl⟩
        rw [hz] at hc HN HN2 HSU HTS
        clear hz
        by_cases hlo : z < 0
        · go_wp2
          go_ret
          exact ⟨by rw [obF.out (HN.out (.inl hlo))]; rfl, hnx⟩
        by_cases hhi : (zs.length : Int) ≤ z
        · go_wp2
          go_ret
          exact ⟨by rw [obF.out (HN.out (.inr hhi))]; rfl, hnx⟩
        obtain ⟨m, rfl⟩ := Int.eq_ofNat_of_zero_le (show 0 ≤ z by omega)
        have hm5 : m < 5 := by omega
        have hcf := hrow.at_ hm5 (tks_get zs k 5 m hm5)
        obtain ⟨hcell, hfz⟩ := hcf
        have S := Lib.hid (hrow.set m true)
        clear hrow
        rcases ht : tk zs k m with _ | _
        · rw [ht] at hcell
          have HT := Lib.hid ht
          clear ht
          go_wp2
          go_roundw
          case rel => exact ⟨k + 1, by omega, by go_num, HSU.out m rfl (by omega) HT.out, by rw [HTS.out m rfl]; exact S.out, hnx.setCell (Nat.le_refl _) _⟩
          case measure => simp [intOf]; omega
        · rw [ht] at hcell
          have HT := Lib.hid ht
          clear ht
          go_wp2
          go_ret
          exact ⟨by rw [obF.out (HN2.out m rfl HT.out)]; rfl, hnx⟩
      · have e : k = zs.length := by omega
        subst e
        go_wp2
        go_ret
        exact ⟨by rw [obT.out ⟨⟨l0, l1⟩, HOK.out⟩]; rfl, hnx⟩
  · go_enter Try.func11, Try.ntmps11
    go_wp2_with fail
    refine (sideValid_no _ _ (by omega)).mono ?_
    rintro e w' ⟨rfl, rfl⟩
    go_wp2
    go_ret
    exact ⟨by rw [obF.out (fun h => hl h.1)]; rfl, Below.refl _ _⟩
end Go.Proofs.Ytilmglockldddaa
