/- Contracts on shared matrices: valid ones, joined ones. (Printed by gen_S2.py.) -/
import Derived.Test.YtilmglockldddaaMatS
import Derived.Test.YtilmglockldddaaMatV4
import Derived.Test.YtilmglockldddaaFnsG1
namespace Go.Proofs.Ytilmglockldddaa
open Go.RowKit

/-- What a valid shared matrix is. -/
def OkS (r c : Int) (zs : List Int) (r2 c2 : Int) (ks : List Int) : Prop := OkM r c zs ∧ OkM r2 c2 ks ∧ r = r2 ∧ c = c2
section
variable (r c : Int) (A : Option Addr) (cap n B : Nat) (zs : List Int) (r2 c2 : Int) (A2 : Option Addr) (cap2 n2 B2 : Nat) (ks : List Int) (w : World) (hs : Sl w B A zs) (hB : B ≤ w.heap.size) (e : n = zs.length) (hn : n ≤ 1100000) (hs2 : Sl w B2 A2 ks) (hB2 : B2 ≤ w.heap.size) (e2 : n2 = ks.length) (hn2 : n2 ≤ 1100000)
include hs hB e hn hs2 hB2 e2 hn2
theorem implSMV_any (ob : Bool) (hob : ob = true ↔ OkS r c zs r2 c2 ks) :
    Calls Try.prog 35 #[smV r c (.slice A n cap) r2 c2 (.slice A2 n2 cap2)] w fun e w' => e = .returned (.bool ob) ∧ Below w.heap.size w w' := by
  subst e
  subst e2
  have q0 := Cell6.new w (.int .i64 r) (.int .i64 c) (.slice A zs.length cap) (.int .i64 r2) (.int .i64 c2) (.slice A2 ks.length cap2) 47
  have hb : Below w.heap.size w (w.alloc (.cells #[.int .i64 r, .int .i64 c, .slice A zs.length cap, .int .i64 r2, .int .i64 c2, .slice A2 ks.length cap2] 47)) := (Below.refl _ _).alloc (Nat.le_refl _) _
  obtain ⟨W, hW⟩ : ∃ W, w.alloc (.cells #[.int .i64 r, .int .i64 c, .slice A zs.length cap, .int .i64 r2, .int .i64 c2, .slice A2 ks.length cap2] 47) = W := ⟨_, rfl⟩
  rw [hW] at q0 hb
  have hsz := hb.size
  have S1 := Lib.hid (hs.below hb hB)
  have S2 := Lib.hid (hs2.below hb hB2)
  have HB := Lib.hid hb
  have Q0 := Lib.hid q0
  clear hs hs2 hb
  obtain ⟨a0, a1, a2, a3, a4, a5, _, _, _, _, _, _, alt⟩ := q0
  by_cases h1 : OkM r c zs
  · by_cases h2 : OkM r2 c2 ks
    · have hob' := Lib.hid (show ob = true ↔ r = r2 ∧ c = c2 from hob.trans ⟨fun h => h.2.2, fun h => ⟨h1, h2, h⟩⟩)
      have H1 := Lib.hid h1
      have H2 := Lib.hid h2
      clear h1 h2 hob
      go_enter Try.func35, Try.ntmps35
      go_wp2_with fail
      refine (implMV_yes r c A cap _ B zs W S1.out (by omega) rfl (by omega) H1.out).mono ?_
      rintro e w2 ⟨rfl, hb2⟩
      have hs2 := hb2.size
      have P0 := Lib.hid (Q0.out.below hb2 alt)
      have T2 := Lib.hid (S2.out.below hb2 (by omega))
      have HB2 := Lib.hid (HB.out.trans (hb2.mono hsz))
      clear hb2 a0 a1 a2 a3 a4 a5 alt
      obtain ⟨a0, a1, a2, a3, a4, a5, _, _, _, _, _, _, alt⟩ := P0.out
      go_wp2_with fail
      refine (implMV_yes r2 c2 A2 cap2 _ B2 ks w2 T2.out (by omega) rfl (by omega) H2.out).mono ?_
      rintro e w3 ⟨rfl, hb3⟩
      have P1 := Lib.hid (P0.out.below hb3 alt)
      have HB3 := Lib.hid (HB2.out.trans (hb3.mono (by omega)))
      have hs3 := hb3.size
      clear hb3 a0 a1 a2 a3 a4 a5 alt
      obtain ⟨a0, a1, a2, a3, a4, a5, _, _, _, _, _, _, alt⟩ := P1.out
      go_wp2_with fail
      refine (sameSides_any r c r2 c2 _ _ w3 ob hob'.out).mono ?_
      rintro e w4 ⟨rfl, hb4⟩
      have HB4 := Lib.hid (HB3.out.trans (hb4.mono (by omega)))
      clear hb4 a0 a1 a2 a3 a4 a5 alt
      go_wp2
      go_ret
      exact ⟨rfl, HB4.out⟩
    · obtain rfl : ob = false := by
        cases ob with
        | false => rfl
        | true => exact absurd (hob.1 rfl).2.1 h2
      have H1 := Lib.hid h1
      have H2 := Lib.hid h2
      clear h1 h2 hob
      go_enter Try.func35, Try.ntmps35
      go_wp2_with fail
      refine (implMV_yes r c A cap _ B zs W S1.out (by omega) rfl (by omega) H1.out).mono ?_
      rintro e w2 ⟨rfl, hb2⟩
      have hs2 := hb2.size
      have P0 := Lib.hid (Q0.out.below hb2 alt)
      have T2 := Lib.hid (S2.out.below hb2 (by omega))
      have HB2 := Lib.hid (HB.out.trans (hb2.mono hsz))
      clear hb2 a0 a1 a2 a3 a4 a5 alt
      obtain ⟨a0, a1, a2, a3, a4, a5, _, _, _, _, _, _, alt⟩ := P0.out
      go_wp2_with fail
      refine (implMV_no r2 c2 A2 cap2 _ B2 ks w2 T2.out (by omega) rfl (by omega) H2.out).mono ?_
      rintro e w3 ⟨rfl, hb3⟩
      have HB3 := Lib.hid (HB2.out.trans (hb3.mono (by omega)))
      clear hb3 a0 a1 a2 a3 a4 a5 alt
      go_wp2
      go_ret
      exact ⟨rfl, HB3.out⟩
  · obtain rfl : ob = false := by
      cases ob with
      | false => rfl
      | true => exact absurd (hob.1 rfl).1 h1
    have H1 := Lib.hid h1
    clear h1 hob
    go_enter Try.func35, Try.ntmps35
    go_wp2_with fail
    refine (implMV_no r c A cap _ B zs W S1.out (by omega) rfl (by omega) H1.out).mono ?_
    rintro e w2 ⟨rfl, hb2⟩
    have HB2 := Lib.hid (HB.out.trans (hb2.mono hsz))
    clear hb2 a0 a1 a2 a3 a4 a5 alt
    go_wp2
    go_ret
    exact ⟨rfl, HB2.out⟩
set_option maxHeartbeats 400000 in
theorem l3Like_any (ob : Bool) (hob : ob = true ↔ OkS r c zs r2 c2 ks) :
    Calls Try.prog 69 #[matV r c (.slice A n cap), matV r2 c2 (.slice A2 n2 cap2)] w fun e w' => e = .returned (.bool ob) ∧ Below w.heap.size w w' := by
  subst e
  subst e2
  obtain ⟨W, hW⟩ : ∃ W, (w.alloc (.cells #[.int .i64 r, .int .i64 c, .slice A zs.length cap] 33)).alloc (.cells #[.int .i64 r2, .int .i64 c2, .slice A2 ks.length cap2] 33) = W := ⟨_, rfl⟩
  obtain ⟨q0, q1, hb, _⟩ := nestB2 w r c r2 c2 (.slice A zs.length cap) (.slice A2 ks.length cap2) W hW.symm
  have hsz := hb.size
  have S1 := Lib.hid (hs.below hb hB)
  have S2 := Lib.hid (hs2.below hb hB2)
  have HB := Lib.hid hb
  have Q0 := Lib.hid q0
  have Q1 := Lib.hid q1
  clear hs hs2 hb q1
  obtain ⟨a0, a1, a2, _, _, _, alt⟩ := q0
  by_cases h1 : OkM r c zs
  · have H1 := Lib.hid h1
    go_enter Try.func69, Try.ntmps69
    go_wp2_with fail
    refine (specMV_yes r c A cap _ B zs W S1.out (by omega) rfl (by omega) H1.out).mono ?_
    rintro e w2 ⟨rfl, hb2⟩
    have hs2 := hb2.size
    have P0 := Lib.hid (Q0.out.below hb2 alt)
    have P1 := Lib.hid (Q1.out.below hb2 (by have := Q1.out.lt; omega))
    have T2 := Lib.hid (S2.out.below hb2 (by omega))
    have HB2 := Lib.hid (HB.out.trans (hb2.mono hsz))
    clear hb2 a0 a1 a2 alt
    obtain ⟨b0, b1, b2, _, _, _, blt⟩ := P1.out
    by_cases h2 : OkM r2 c2 ks
    · have H2 := Lib.hid h2
      have hob' := Lib.hid (show ob = true ↔ r = r2 ∧ c = c2 from hob.trans ⟨fun h => h.2.2, fun h => ⟨h1, h2, h⟩⟩)
      clear h1 h2 hob
      go_wp2_with fail
      refine (specMV_yes r2 c2 A2 cap2 _ B2 ks w2 T2.out (by omega) rfl (by omega) H2.out).mono ?_
      rintro e w3 ⟨rfl, hb3⟩
      have HB3 := Lib.hid (HB2.out.trans (hb3.mono (by omega)))
      have N0 := Lib.hid (P0.out.below hb3 (by have := P0.out.lt; omega))
      have N1 := Lib.hid (P1.out.below hb3 blt)
      clear hb3 b0 b1 b2 blt
      obtain ⟨a0, a1, a2, _, _, _, alt⟩ := N0.out
      obtain ⟨b0, b1, b2, _, _, _, blt⟩ := N1.out
      by_cases hr : r = r2
      · have hrd : (r == r2) = true := by simpa using hr
        by_cases hc : c = c2
        · have hcd : (c == c2) = true := by simpa using hc
          obtain rfl : ob = true := hob'.out.2 ⟨hr, hc⟩
          clear hr hc
          go_wp2
          go_ret
          exact ⟨rfl, HB3.out⟩
        · have hcd : (c == c2) = false := by simpa using hc
          obtain rfl : ob = false := by
            cases ob with
            | false => rfl
            | true => exact absurd (hob'.out.1 rfl).2 hc
          clear hr hc
          go_wp2
          go_ret
          exact ⟨rfl, HB3.out⟩
      · have hrd : (r == r2) = false := by simpa using hr
        obtain rfl : ob = false := by
          cases ob with
          | false => rfl
          | true => exact absurd (hob'.out.1 rfl).1 hr
        clear hr
        go_wp2
        go_ret
        exact ⟨rfl, HB3.out⟩
    · obtain rfl : ob = false := by
        cases ob with
        | false => rfl
        | true => exact absurd (hob.1 rfl).2.1 h2
      have H2 := Lib.hid h2
      clear h1 h2 hob
      go_wp2_with fail
      refine (specMV_no r2 c2 A2 cap2 _ B2 ks w2 T2.out (by omega) rfl (by omega) H2.out).mono ?_
      rintro e w3 ⟨rfl, hb3⟩
      have HB3 := Lib.hid (HB2.out.trans (hb3.mono (by omega)))
      clear hb3 b0 b1 b2 blt
      go_wp2
      go_ret
      exact ⟨rfl, HB3.out⟩
  · obtain rfl : ob = false := by
      cases ob with
      | false => rfl
      | true => exact absurd (hob.1 rfl).1 h1
    have H1 := Lib.hid h1
    clear h1 hob
    go_enter Try.func69, Try.ntmps69
    go_wp2_with fail
    refine (specMV_no r c A cap _ B zs W S1.out (by omega) rfl (by omega) H1.out).mono ?_
    rintro e w2 ⟨rfl, hb2⟩
    have HB2 := Lib.hid (HB.out.trans (hb2.mono hsz))
    clear hb2 a0 a1 a2 alt
    go_wp2
    go_ret
    exact ⟨rfl, HB2.out⟩
theorem specSMV_any (ob : Bool) (hob : ob = true ↔ OkS r c zs r2 c2 ks) :
    Calls Try.prog 54 #[smV r c (.slice A n cap) r2 c2 (.slice A2 n2 cap2)] w fun e w' => e = .returned (.bool ob) ∧ Below w.heap.size w w' := by
  subst e
  subst e2
  have q0 := Cell6.new w (.int .i64 r) (.int .i64 c) (.slice A zs.length cap) (.int .i64 r2) (.int .i64 c2) (.slice A2 ks.length cap2) 47
  have hb : Below w.heap.size w (w.alloc (.cells #[.int .i64 r, .int .i64 c, .slice A zs.length cap, .int .i64 r2, .int .i64 c2, .slice A2 ks.length cap2] 47)) := (Below.refl _ _).alloc (Nat.le_refl _) _
  obtain ⟨W, hW⟩ : ∃ W, w.alloc (.cells #[.int .i64 r, .int .i64 c, .slice A zs.length cap, .int .i64 r2, .int .i64 c2, .slice A2 ks.length cap2] 47) = W := ⟨_, rfl⟩
  rw [hW] at q0 hb
  have hsz := hb.size
  have S1 := Lib.hid (hs.below hb hB)
  have S2 := Lib.hid (hs2.below hb hB2)
  have HB := Lib.hid hb
  have Q0 := Lib.hid q0
  clear hs hs2 hb
  obtain ⟨a0, a1, a2, a3, a4, a5, _, _, _, _, _, _, alt⟩ := q0
  have HO := Lib.hid hob
  clear hob
  go_enter Try.func54, Try.ntmps54
  go_wp2_with fail
  refine (l3Like_any r c A cap _ B zs r2 c2 A2 cap2 _ B2 ks W S1.out (by omega) rfl (by omega) S2.out (by omega) rfl (by omega) ob HO.out).mono ?_
  rintro e w2 ⟨rfl, hb2⟩
  have HB2 := Lib.hid (HB.out.trans (hb2.mono hsz))
  clear hb2 a0 a1 a2 a3 a4 a5 alt
  go_wp2
  go_ret
  exact ⟨rfl, HB2.out⟩
end
theorem implJoin_yes (r c : Int) (A : Option Addr) (cap n B : Nat) (zs : List Int) (A2 : Option Addr) (cap2 n2 B2 : Nat) (ks : List Int) (w : World) (hs : Sl w B A zs) (hB : B ≤ w.heap.size) (e : n = zs.length) (hs2 : Sl w B2 A2 ks) (hB2 : B2 ≤ w.heap.size) (e2 : n2 = ks.length) (hm : OkM r c zs) (hm2 : OkM r c ks) :
    Calls Try.prog 36 #[smV r c (.slice A n cap) r c (.slice A2 n2 cap2)] w fun e w' => ∃ s, e = .returned (matV r c s) ∧ Row w' w.heap.size w'.heap.size s (pairZ addF zs ks) ∧ Below w.heap.size w w' := by
  subst e
  subst e2
  have q0 := (Cell6.new w (.int .i64 r) (.int .i64 c) (.slice A zs.length cap) (.int .i64 r) (.int .i64 c) (.slice A2 ks.length cap2) 47).alloc (.cells #[.int .i64 0, .int .i64 0, .slice none 0 0] 33)
  have q1 := Cell3.new (w.alloc (.cells #[.int .i64 r, .int .i64 c, .slice A zs.length cap, .int .i64 r, .int .i64 c, .slice A2 ks.length cap2] 47)) (.int .i64 0) (.int .i64 0) (.slice none 0 0) 33
  have hb : Below w.heap.size w ((w.alloc (.cells #[.int .i64 r, .int .i64 c, .slice A zs.length cap, .int .i64 r, .int .i64 c, .slice A2 ks.length cap2] 47)).alloc (.cells #[.int .i64 0, .int .i64 0, .slice none 0 0] 33)) := ((Below.refl _ _).alloc (Nat.le_refl _) _).alloc (by simp) _
  have hsz : ((w.alloc (.cells #[.int .i64 r, .int .i64 c, .slice A zs.length cap, .int .i64 r, .int .i64 c, .slice A2 ks.length cap2] 47)).alloc (.cells #[.int .i64 0, .int .i64 0, .slice none 0 0] 33)).heap.size = w.heap.size + 2 := by simp
  simp only [World.size_alloc] at q1
  obtain ⟨W, hW⟩ : ∃ W, (w.alloc (.cells #[.int .i64 r, .int .i64 c, .slice A zs.length cap, .int .i64 r, .int .i64 c, .slice A2 ks.length cap2] 47)).alloc (.cells #[.int .i64 0, .int .i64 0, .slice none 0 0] 33) = W := ⟨_, rfl⟩
  rw [hW] at q0 q1 hb hsz
  have HP := Lib.hid (implAdd_yes r c A cap _ B zs A2 cap2 _ B2 ks W (hs.below hb hB) (by omega) rfl (hs2.below hb hB2) (by omega) rfl hm hm2)
  have HB := Lib.hid hb
  have Q1 := Lib.hid q1
  obtain ⟨L, hL⟩ : ∃ L, pairZ addF zs ks = L := ⟨_, rfl⟩
  rw [hL] at HP ⊢
  clear hs hs2 hb q1 hm hm2 hL
  obtain ⟨a0, a1, a2, a3, a4, a5, _, _, _, _, _, _, alt⟩ := q0
  go_enter Try.func36, Try.ntmps36
  go_wp2_with fail
  refine HP.out.mono ?_
  rintro e w2 ⟨s, rfl, hr, hb2⟩
  obtain ⟨A3, c3, rfl, _, _, _⟩ := hr.form
  have hsz2 := hb2.size
  have P1 := Lib.hid (Q1.out.below hb2 (by omega))
  have HB2 := Lib.hid (HB.out.trans (hb2.mono (by omega)))
  have HR := Lib.hid hr
  clear hr hb2 a0 a1 a2 a3 a4 a5 alt
  obtain ⟨b0, b1, b2, g0, g1, g2, blt⟩ := P1.out
  go_wp2
  have P2 := ((P1.out.set0 (.int .i64 r)).set1 (.int .i64 c)).set2 (.slice A3 L.length c3)
  have R4 := ((HR.out.grown (set_grown _ (w.heap.size + 1) 0 (.int .i64 r)) (fun g e => by cases e; left; omega)).grown (set_grown _ (w.heap.size + 1) 1 (.int .i64 c)) (fun g e => by cases e; left; omega)).grown (set_grown _ (w.heap.size + 1) 2 (.slice A3 L.length c3)) (fun g e => by cases e; left; omega)
  have B4 := ((HB2.out.setCell (p := ⟨w.heap.size + 1, 0, none⟩) (by simp) (.int .i64 r)).setCell (p := ⟨w.heap.size + 1, 1, none⟩) (by simp) (.int .i64 c)).setCell (p := ⟨w.heap.size + 1, 2, none⟩) (by simp) (.slice A3 L.length c3)
  have S4 : ((((w2.setCell ⟨w.heap.size + 1, 0, none⟩ (.int .i64 r)).setCell ⟨w.heap.size + 1, 1, none⟩ (.int .i64 c)).setCell ⟨w.heap.size + 1, 2, none⟩ (.slice A3 L.length c3)).heap.size) = w2.heap.size := by simp
  obtain ⟨W4, hW4⟩ : ∃ W4, (((w2.setCell ⟨w.heap.size + 1, 0, none⟩ (.int .i64 r)).setCell ⟨w.heap.size + 1, 1, none⟩ (.int .i64 c)).setCell ⟨w.heap.size + 1, 2, none⟩ (.slice A3 L.length c3)) = W4 := ⟨_, rfl⟩
  rw [hW4] at P2 R4 B4 S4 ⊢
  obtain ⟨z0, z1, z2, _, _, _, _⟩ := P2
  refine bodyPost_ret (v := matV r c (.slice A3 L.length c3)) (by simp [results, Try.results36, go_sem, z0, z1, z2]) rfl ?_
  exact ⟨_, rfl, R4.wider (by omega) (by omega), B4⟩
end Go.Proofs.Ytilmglockldddaa
