/- The walk of the law on valid orders. -/
import Derived.Test.YtilmglockldddaaDrawD
namespace Go.Proofs.Ytilmglockldddaa
open Go.RowKit

theorem twice_not {zs : List Int} (hn : 2 ≤ zs.length) : ¬ OkO ([zs.getD 0 0] ++ zs.take (zs.length - 1)) := fun h => by
  have h2 := (h.2 1 (by simp; omega)).2 0 (by omega)
  apply h2
  have : (zs.take (zs.length - 1))[0]? = zs[0]? := List.getElem?_take_of_lt (by omega)
  simp [List.getD_eq_getElem?_getD, this]
set_option maxHeartbeats 1600000 in
theorem law_FnOrderValid (w : World) (A : Option Addr) (n c : Nat) (h0 : Code8 w A n ∧ n ≤ c ∧ c ≤ maxLen) :
    Calls Try.prog 4 #[.slice A n c] w fun e w' => e = .returned (.bool true) ∧ Below w.heap.size w w' := by
  obtain ⟨hc, hnc, hcm⟩ := h0
  have hcm' := hcm
  unfold maxLen at hcm'
  by_cases hn : 1048576 < n
  · go_enter Try.func4, Try.ntmps4
    go_wp2
    go_ret
    exact ⟨rfl, Below.refl _ _⟩
  have hd1 : decide ((1048576 : Int) < (n : Int)) = false := by simp; omega
  go_enter Try.func4, Try.ntmps4
  go_wp2_with fail
  refine (drawOrderValid A n c w (by omega) hnc hcm hc).mono ?_
  rintro e w1 ⟨A1, m, c1, zs, rfl, h1, h2, h3, h4, h5, hb⟩
  subst h1
  have HS := Lib.hid h4
  have HB := Lib.hid hb
  clear h4 hb
  by_cases ho : OkO zs
  · have HO := Lib.hid ho
    have hl1 := ho.1
    clear ho
    go_wp2_with fail
    refine (implOV_any A1 c1 zs w1 HS.out (by omega) true ⟨fun _ => HO.out, fun _ => rfl⟩).mono ?_
    rintro e w2 ⟨rfl, hb2⟩
    have hs2 := hb2.size
    have HS2 := Lib.hid ((HS.out.below hb2 (Nat.le_refl _)).more hs2)
    have HB2 := Lib.hid (HB.out.trans (hb2.mono HB.out.size))
    clear hb2
    go_wp2_with fail
    refine (specOV_any A1 c1 zs w2 HS2.out (by omega) true ⟨fun _ => HO.out, fun _ => rfl⟩).mono ?_
    rintro e w3 ⟨rfl, hb3⟩
    have hs3 := hb3.size
    have HS3 := Lib.hid ((HS2.out.below hb3 (Nat.le_refl _)).more hs3)
    have HB3 := Lib.hid (HB2.out.trans (hb3.mono HB2.out.size))
    clear hb3
    by_cases hz : zs.length = 1
    · have hzi : ((zs.length : Int) == 1) = true := by simp [hz]
      have HZ := Lib.hid hz
      clear hz
      go_wp2_with fail
      refine (alive_any _).mono ?_
      rintro e w' ⟨rfl, rfl⟩
      go_wp2
      go_ret
      exact ⟨rfl, HB3.out⟩
    · have hz2 : 2 ≤ zs.length := by omega
      have hzi : ((zs.length : Int) == 1) = false := by simp; omega
      have hmw : IntKind.i64.wrap ((zs.length : Int) - 1) = ((zs.length - 1 : Nat) : Int) := by
        have : ((zs.length - 1 : Nat) : Int) = (zs.length : Int) - 1 := by omega
        rw [this]
        rw [IntKind.wrap_i64]; omega
      have HT := Lib.hid (twice_not hz2)
      obtain ⟨b, off, hA, hbB, hc0⟩ := HS3.out.at_ (k := 0) (by omega)
      subst hA
      have HTk := Lib.hid (HS3.out.takeD (zs.length - 1) (by omega))
      have hTl := Lib.hid (show (zs.take (zs.length - 1)).length = zs.length - 1 by simp)
      obtain ⟨m1, hm1⟩ : ∃ m1, zs.length - 1 = m1 := ⟨_, rfl⟩
      rw [hm1] at hmw HT HTk hTl
      have hm1i : (m1 : Int) ≤ (zs.length : Int) := by omega
      have hm1c : (m1 : Int) ≤ (c1 : Int) := by omega
      have hl0 : (0 : Int) < (zs.length : Int) := by omega
      have hl0n : 0 < zs.length := by omega
      obtain ⟨x, hx⟩ : ∃ x, zs.getD 0 0 = x := ⟨_, rfl⟩
      rw [hx] at HT hc0
      rw [Nat.add_zero] at hc0
      obtain ⟨L, hL⟩ : ∃ L, zs.take m1 = L := ⟨_, rfl⟩
      rw [hL] at HT HTk hTl
      clear hx hz hm1 hL
      have hal := World.grownBy_alloc w3 (.cells #[.int .i64 x] 3) none
      have hRow := (drew1 (w3.alloc (.cells #[.int .i64 x] 3))).row (show Row (w3.alloc (.cells #[.int .i64 x] 3)) w3.heap.size (w3.heap.size + 1) (.slice (some ⟨w3.heap.size, 0, none⟩) 1 1) [x] from ⟨World.ownsRow_lit w3 #[.int .i64 x] 1 (Nat.le_refl _) (by simp [maxLen]) rfl, fun g hg => by simp [Value.ownBlock] at hg; omega⟩)
      have HR := Lib.hid hRow
      have HA := Lib.hid ((drew1 (w3.alloc (.cells #[.int .i64 x] 3))).sl (HTk.out.below ((Below.refl w3.heap.size w3).alloc (Nat.le_refl _) (.cells #[.int .i64 x] 3)) (Nat.le_refl _)))
      have HBA := Lib.hid (((Below.refl w3.heap.size w3).alloc (Nat.le_refl _) (.cells #[.int .i64 x] 3)).trans ((drew1 _).below _))
      have hc1' : (w3.alloc (.cells #[.int .i64 x] 3)).drew.cell? ⟨b, off, none⟩ = some (.int .i64 x) := hal.cell hc0 (by simp)
      have hc0' : w3.drew.cell? ⟨b, off, none⟩ = some (.int .i64 x) := hc0
      clear hRow hal
      go_upto_region 9 with fail
      go_region_held3 (fun w' => w'.cell? ⟨b, off, none⟩ = some (.int .i64 x))
        (first | exact hc0' | exact hc1' | exact hc5 | exact hc6 | fail)
        (first
          | (refine step_appG rfl (.tmp 27) (.tmp 32) rfl w3.heap.size (w3.heap.size + 1) (.slice (some ⟨w3.heap.size, 0, none⟩) 1 1) [x] rfl HR.out w3.heap.size (some ⟨b, off, none⟩) m1 c1 L rfl hTl.out HA.out (by have := hTl.out; simp; omega) (by simp) ?_; intro v5 w5 hr5 hg5; have hcur := HBA.out.grown hg5 (by first | (simp; done) | (simp; omega)) (fun g e => by cases e; exact Nat.le_refl _); have hc5 := (hcur.cell (p := ⟨b, off, none⟩) hbB).trans hc0; obtain ⟨A5, c5, rfl, _, _, hs5⟩ := hr5.form)
          | (go_simp; go_at_call 11; refine (implOV_any A5 c5 ([x] ++ L) w5 hs5 (by have := hTl.out; simp; omega) false ⟨fun e => by simp at e, fun e => absurd e HT.out⟩).mono ?_; rintro e w6 ⟨rfl, hb6⟩; have hcur := hcur.trans (hb6.mono hcur.size); have hc6 := (hcur.cell (p := ⟨b, off, none⟩) hbB).trans hc0)
          | fail)
      all_goals (
        go_wp2
        go_ret
        exact ⟨rfl, HB3.out.trans (hcur.mono HB3.out.size)⟩)
  · have HO := Lib.hid ho
    clear ho
    go_wp2_with fail
    refine (implOV_any A1 c1 zs w1 HS.out (by omega) false ⟨fun e => by simp at e, fun e => absurd e HO.out⟩).mono ?_
    rintro e w2 ⟨rfl, hb2⟩
    have hs2 := hb2.size
    have HS2 := Lib.hid ((HS.out.below hb2 (Nat.le_refl _)).more hs2)
    have HB2 := Lib.hid (HB.out.trans (hb2.mono HB.out.size))
    clear hb2
    go_wp2_with fail
    refine (specOV_any A1 c1 zs w2 HS2.out (by omega) false ⟨fun e => by simp at e, fun e => absurd e HO.out⟩).mono ?_
    rintro e w3 ⟨rfl, hb3⟩
    have HB3 := Lib.hid (HB2.out.trans (hb3.mono HB2.out.size))
    clear hb3
    go_wp2_with fail
    refine (alive_any _).mono ?_
    rintro e w' ⟨rfl, rfl⟩
    go_wp2
    go_ret
    exact ⟨rfl, HB3.out⟩
end Go.Proofs.Ytilmglockldddaa
