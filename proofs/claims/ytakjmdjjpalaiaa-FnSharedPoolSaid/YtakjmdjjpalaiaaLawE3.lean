/- Whole contracts: pools. (Printed by gen_E13.py.) -/
import Derived.Test.YtakjmdjjpalaiaaFnsE9
import Derived.Test.YtakjmdjjpalaiaaFnsE11
import Derived.Test.YtakjmdjjpalaiaaFnsE12
namespace Go.Proofs.Ytakjmdjjpalaiaa
open Go.RowKit

theorem OkB.nat {r c l : Int} {zs : List Int} (h : OkB r c zs l) : ∃ rn cn ln : Nat, r = rn ∧ c = cn ∧ l = ln ∧ (1 ≤ ln ∧ ln ≤ 5) ∧ rn / ln * ln = rn ∧ cn / ln * ln = cn := by
  obtain ⟨⟨h1, h2, _⟩, h3, h4, h5⟩ := h
  obtain ⟨rn, rfl⟩ := Int.eq_ofNat_of_zero_le (show 0 ≤ r by omega)
  obtain ⟨cn, rfl⟩ := Int.eq_ofNat_of_zero_le (show 0 ≤ c by omega)
  obtain ⟨ln, rfl⟩ := Int.eq_ofNat_of_zero_le (show 0 ≤ l by omega)
  have h4' : rn % ln = 0 := by exact_mod_cast h4
  have h5' : cn % ln = 0 := by exact_mod_cast h5
  exact ⟨rn, cn, ln, rfl, rfl, rfl, by omega, Nat.div_mul_cancel (Nat.dvd_of_mod_eq_zero h4'), Nat.div_mul_cancel (Nat.dvd_of_mod_eq_zero h5')⟩

set_option maxHeartbeats 400000 in
theorem implSum_w (r c l : Int) (A : Option Addr) (cap n B : Nat) (zs : List Int) (w : World) (hs : Sl w B A zs) (hB : B ≤ w.heap.size) (R C : Int) (L : List Int)
    (hp : ∀ wx : World, Sl wx B A zs → B ≤ wx.heap.size → Calls Try.prog 59 #[matV r c (.slice A n cap), .int .i64 l, .func (.func 25) #[] #[]] wx fun e w' => ∃ s, e = .returned (matV R C s) ∧ Row w' wx.heap.size w'.heap.size s L ∧ Below wx.heap.size wx w') :
    Calls Try.prog 18 #[matV r c (.slice A n cap), .int .i64 l] w fun e w' => ∃ s, e = .returned (matV R C s) ∧ Row w' w.heap.size w'.heap.size s L ∧ Below w.heap.size w w' := by
  obtain ⟨W, hW⟩ : ∃ W, (w.alloc (.cells #[.int .i64 r, .int .i64 c, .slice A n cap] 26)).alloc (.cells #[.int .i64 0, .int .i64 0, .slice none 0 0] 26) = W := ⟨_, rfl⟩
  obtain ⟨q0, q1, hb, hws⟩ := nest2 w r c (.slice A n cap) W hW.symm
  have HS := Lib.hid (hs.below hb hB)
  have Q1 := Lib.hid q1
  have HB := Lib.hid hb
  have HP := Lib.hid (hp W HS.out (by omega))
  obtain ⟨a0, a1, a2, f0, f1, f2, alt⟩ := q0
  clear hs q1 hb hp
  go_enter Try.func18, Try.ntmps18
  go_wp2_with fail
  refine HP.out.mono ?_
  rintro e w3 ⟨s3, rfl, hr3, hb3⟩
  obtain ⟨A3, c3, rfl, _, _, _⟩ := hr3.form
  have hs3 := hb3.size
  have P1 := Q1.out.below hb3 (by omega)
  have HP1 := Lib.hid P1
  obtain ⟨b0, b1, b2, g0, g1, g2, blt⟩ := P1
  have HR := Lib.hid hr3
  have HB3 := Lib.hid (HB.out.trans (hb3.mono (by omega)))
  clear hr3 hb3 a0 a1 a2 f0 f1 f2 alt
  go_wp2
  have P2 := ((HP1.out.set0 (.int .i64 R)).set1 (.int .i64 C)).set2 (.slice A3 L.length c3)
  have R2 := HR.out.grown (set_grown _ (w.heap.size + 1) 0 (.int .i64 R)) (fun g e => by cases e; left; omega)
  have R3 := R2.grown (set_grown _ (w.heap.size + 1) 1 (.int .i64 C)) (fun g e => by cases e; left; omega)
  have R4 := R3.grown (set_grown _ (w.heap.size + 1) 2 (.slice A3 L.length c3)) (fun g e => by cases e; left; omega)
  have B4 := ((HB3.out.setCell (p := ⟨w.heap.size + 1, 0, none⟩) (by simp) (.int .i64 R)).setCell (p := ⟨w.heap.size + 1, 1, none⟩) (by simp) (.int .i64 C)).setCell (p := ⟨w.heap.size + 1, 2, none⟩) (by simp) (.slice A3 L.length c3)
  have S4 : ((((w3.setCell ⟨w.heap.size + 1, 0, none⟩ (.int .i64 R)).setCell ⟨w.heap.size + 1, 1, none⟩ (.int .i64 C)).setCell ⟨w.heap.size + 1, 2, none⟩ (.slice A3 L.length c3)).heap.size) = w3.heap.size := by simp
  obtain ⟨W4, hW4⟩ : ∃ W4, (((w3.setCell ⟨w.heap.size + 1, 0, none⟩ (.int .i64 R)).setCell ⟨w.heap.size + 1, 1, none⟩ (.int .i64 C)).setCell ⟨w.heap.size + 1, 2, none⟩ (.slice A3 L.length c3)) = W4 := ⟨_, rfl⟩
  rw [hW4] at P2 R4 B4 S4 ⊢
  obtain ⟨z0, z1, z2, _, _, _, _⟩ := P2
  refine bodyPost_ret (v := matV R C (.slice A3 L.length c3)) (by simp [results, Try.results18, go_sem, z0, z1, z2]) rfl ?_
  exact ⟨_, rfl, R4.wider (by omega) (by omega), B4⟩
open Classical in
noncomputable def smpR (r c l : Int) (zs : List Int) : Int := if OkB r c zs l then ((r.toNat / l.toNat : Nat) : Int) else 0
open Classical in
noncomputable def smpC (r c l : Int) (zs : List Int) : Int := if OkB r c zs l then ((c.toNat / l.toNat : Nat) : Int) else 0
open Classical in
noncomputable def smpZ (r c l : Int) (zs : List Int) : List Int := if OkB r c zs l then poolZ addF l.toNat (r.toNat / l.toNat) (c.toNat / l.toNat) zs else []
section
variable (r c l : Int) (A : Option Addr) (cap n B : Nat) (zs : List Int) (w : World) (hs : Sl w B A zs) (hB : B ≤ w.heap.size) (e : n = zs.length) (hn : n ≤ 1100000)
include hs hB e hn
theorem implSum_any : Calls Try.prog 18 #[matV r c (.slice A n cap), .int .i64 l] w fun e w' => ∃ s, e = .returned (matV (smpR r c l zs) (smpC r c l zs) s) ∧ Row w' w.heap.size w'.heap.size s (smpZ r c l zs) ∧ Below w.heap.size w w' := by
  refine implSum_w r c l A cap n B zs w hs hB _ _ _ (fun wx hsx hBx => ?_)
  unfold smpR smpC smpZ
  by_cases h : OkB r c zs l
  · rw [if_pos h, if_pos h, if_pos h]
    obtain ⟨rn, cn, ln, rfl, rfl, rfl, hl, hr, hc⟩ := h.nat
    simp only [Int.toNat_natCast]
    have hm := h.1
    rw [← hr, ← hc] at hm ⊢
    rw [Nat.mul_div_cancel _ hl.1, Nat.mul_div_cancel _ hl.1]
    exact poolSum_yes ln _ _ A cap n B zs wx hsx hBx e hn hm hl
  · rw [if_neg h, if_neg h, if_neg h]
    exact (poolSum_no r c l A cap n B zs wx hsx hBx e hn h).mono fun e w' ⟨h1, h2⟩ => ⟨_, h1, Row.nil_ _ _ _, h2⟩
theorem specSum_any : Calls Try.prog 16 #[matV r c (.slice A n cap), .int .i64 l] w fun e w' => ∃ s, e = .returned (matV (smpR r c l zs) (smpC r c l zs) s) ∧ Row w' w.heap.size w'.heap.size s (smpZ r c l zs) ∧ Below w.heap.size w w' := by
  unfold smpR smpC smpZ
  by_cases h : OkB r c zs l
  · rw [if_pos h, if_pos h, if_pos h]
    obtain ⟨rn, cn, ln, rfl, rfl, rfl, hl, hr, hc⟩ := h.nat
    simp only [Int.toNat_natCast]
    have hm := h.1
    rw [← hr, ← hc] at hm ⊢
    rw [Nat.mul_div_cancel _ hl.1, Nat.mul_div_cancel _ hl.1]
    exact specSum_yes ln _ _ A cap n B zs w hs hB e hn hm hl
  · rw [if_neg h, if_neg h, if_neg h]
    exact (specSum_no r c l A cap n B zs w hs hB e hn h).mono fun e w' ⟨h1, h2⟩ => ⟨_, h1, Row.nil_ _ _ _, h2⟩
end
theorem smpZ_len (r c l : Int) (zs : List Int) (h0 : zs.length ≤ 1048576) : (smpZ r c l zs).length ≤ 1048576 := by
  unfold smpZ
  split
  · next h =>
    obtain ⟨rn, cn, ln, rfl, rfl, rfl, hl, hr, hc⟩ := h.nat
    have hm := h.1.2.2.1
    rw [poolZ, tab_len]
    simp only [Int.toNat_natCast]
    have h1 : rn / ln * (cn / ln) ≤ rn * cn := Nat.mul_le_mul (Nat.div_le_self _ _) (Nat.div_le_self _ _)
    have e : ((rn * cn : Nat) : Int) = (rn : Int) * (cn : Int) := by simp
    omega
  · simp

set_option maxHeartbeats 400000 in
theorem implTop_w (r c l : Int) (A : Option Addr) (cap n B : Nat) (zs : List Int) (w : World) (hs : Sl w B A zs) (hB : B ≤ w.heap.size) (R C : Int) (L : List Int)
    (hp : ∀ wx : World, Sl wx B A zs → B ≤ wx.heap.size → Calls Try.prog 59 #[matV r c (.slice A n cap), .int .i64 l, .func (.func 70) #[] #[]] wx fun e w' => ∃ s, e = .returned (matV R C s) ∧ Row w' wx.heap.size w'.heap.size s L ∧ Below wx.heap.size wx w') :
    Calls Try.prog 27 #[matV r c (.slice A n cap), .int .i64 l] w fun e w' => ∃ s, e = .returned (matV R C s) ∧ Row w' w.heap.size w'.heap.size s L ∧ Below w.heap.size w w' := by
  obtain ⟨W, hW⟩ : ∃ W, (w.alloc (.cells #[.int .i64 r, .int .i64 c, .slice A n cap] 26)).alloc (.cells #[.int .i64 0, .int .i64 0, .slice none 0 0] 26) = W := ⟨_, rfl⟩
  obtain ⟨q0, q1, hb, hws⟩ := nest2 w r c (.slice A n cap) W hW.symm
  have HS := Lib.hid (hs.below hb hB)
  have Q1 := Lib.hid q1
  have HB := Lib.hid hb
  have HP := Lib.hid (hp W HS.out (by omega))
  obtain ⟨a0, a1, a2, f0, f1, f2, alt⟩ := q0
  clear hs q1 hb hp
  go_enter Try.func27, Try.ntmps27
  go_wp2_with fail
  refine HP.out.mono ?_
  rintro e w3 ⟨s3, rfl, hr3, hb3⟩
  obtain ⟨A3, c3, rfl, _, _, _⟩ := hr3.form
  have hs3 := hb3.size
  have P1 := Q1.out.below hb3 (by omega)
  have HP1 := Lib.hid P1
  obtain ⟨b0, b1, b2, g0, g1, g2, blt⟩ := P1
  have HR := Lib.hid hr3
  have HB3 := Lib.hid (HB.out.trans (hb3.mono (by omega)))
  clear hr3 hb3 a0 a1 a2 f0 f1 f2 alt
  go_wp2
  have P2 := ((HP1.out.set0 (.int .i64 R)).set1 (.int .i64 C)).set2 (.slice A3 L.length c3)
  have R2 := HR.out.grown (set_grown _ (w.heap.size + 1) 0 (.int .i64 R)) (fun g e => by cases e; left; omega)
  have R3 := R2.grown (set_grown _ (w.heap.size + 1) 1 (.int .i64 C)) (fun g e => by cases e; left; omega)
  have R4 := R3.grown (set_grown _ (w.heap.size + 1) 2 (.slice A3 L.length c3)) (fun g e => by cases e; left; omega)
  have B4 := ((HB3.out.setCell (p := ⟨w.heap.size + 1, 0, none⟩) (by simp) (.int .i64 R)).setCell (p := ⟨w.heap.size + 1, 1, none⟩) (by simp) (.int .i64 C)).setCell (p := ⟨w.heap.size + 1, 2, none⟩) (by simp) (.slice A3 L.length c3)
  have S4 : ((((w3.setCell ⟨w.heap.size + 1, 0, none⟩ (.int .i64 R)).setCell ⟨w.heap.size + 1, 1, none⟩ (.int .i64 C)).setCell ⟨w.heap.size + 1, 2, none⟩ (.slice A3 L.length c3)).heap.size) = w3.heap.size := by simp
  obtain ⟨W4, hW4⟩ : ∃ W4, (((w3.setCell ⟨w.heap.size + 1, 0, none⟩ (.int .i64 R)).setCell ⟨w.heap.size + 1, 1, none⟩ (.int .i64 C)).setCell ⟨w.heap.size + 1, 2, none⟩ (.slice A3 L.length c3)) = W4 := ⟨_, rfl⟩
  rw [hW4] at P2 R4 B4 S4 ⊢
  obtain ⟨z0, z1, z2, _, _, _, _⟩ := P2
  refine bodyPost_ret (v := matV R C (.slice A3 L.length c3)) (by simp [results, Try.results27, go_sem, z0, z1, z2]) rfl ?_
  exact ⟨_, rfl, R4.wider (by omega) (by omega), B4⟩
open Classical in
noncomputable def tppR (r c l : Int) (zs : List Int) : Int := if OkB r c zs l then ((r.toNat / l.toNat : Nat) : Int) else 0
open Classical in
noncomputable def tppC (r c l : Int) (zs : List Int) : Int := if OkB r c zs l then ((c.toNat / l.toNat : Nat) : Int) else 0
open Classical in
noncomputable def tppZ (r c l : Int) (zs : List Int) : List Int := if OkB r c zs l then poolZ topF l.toNat (r.toNat / l.toNat) (c.toNat / l.toNat) zs else []
section
variable (r c l : Int) (A : Option Addr) (cap n B : Nat) (zs : List Int) (w : World) (hs : Sl w B A zs) (hB : B ≤ w.heap.size) (e : n = zs.length) (hn : n ≤ 1100000)
include hs hB e hn
theorem implTop_any : Calls Try.prog 27 #[matV r c (.slice A n cap), .int .i64 l] w fun e w' => ∃ s, e = .returned (matV (tppR r c l zs) (tppC r c l zs) s) ∧ Row w' w.heap.size w'.heap.size s (tppZ r c l zs) ∧ Below w.heap.size w w' := by
  refine implTop_w r c l A cap n B zs w hs hB _ _ _ (fun wx hsx hBx => ?_)
  unfold tppR tppC tppZ
  by_cases h : OkB r c zs l
  · rw [if_pos h, if_pos h, if_pos h]
    obtain ⟨rn, cn, ln, rfl, rfl, rfl, hl, hr, hc⟩ := h.nat
    simp only [Int.toNat_natCast]
    have hm := h.1
    rw [← hr, ← hc] at hm ⊢
    rw [Nat.mul_div_cancel _ hl.1, Nat.mul_div_cancel _ hl.1]
    exact poolTop_yes ln _ _ A cap n B zs wx hsx hBx e hn hm hl
  · rw [if_neg h, if_neg h, if_neg h]
    exact (poolTop_no r c l A cap n B zs wx hsx hBx e hn h).mono fun e w' ⟨h1, h2⟩ => ⟨_, h1, Row.nil_ _ _ _, h2⟩
theorem specTop_any : Calls Try.prog 26 #[matV r c (.slice A n cap), .int .i64 l] w fun e w' => ∃ s, e = .returned (matV (tppR r c l zs) (tppC r c l zs) s) ∧ Row w' w.heap.size w'.heap.size s (tppZ r c l zs) ∧ Below w.heap.size w w' := by
  unfold tppR tppC tppZ
  by_cases h : OkB r c zs l
  · rw [if_pos h, if_pos h, if_pos h]
    obtain ⟨rn, cn, ln, rfl, rfl, rfl, hl, hr, hc⟩ := h.nat
    simp only [Int.toNat_natCast]
    have hm := h.1
    rw [← hr, ← hc] at hm ⊢
    rw [Nat.mul_div_cancel _ hl.1, Nat.mul_div_cancel _ hl.1]
    exact specTop_yes ln _ _ A cap n B zs w hs hB e hn hm hl
  · rw [if_neg h, if_neg h, if_neg h]
    exact (specTop_no r c l A cap n B zs w hs hB e hn h).mono fun e w' ⟨h1, h2⟩ => ⟨_, h1, Row.nil_ _ _ _, h2⟩
end
theorem tppZ_len (r c l : Int) (zs : List Int) (h0 : zs.length ≤ 1048576) : (tppZ r c l zs).length ≤ 1048576 := by
  unfold tppZ
  split
  · next h =>
    obtain ⟨rn, cn, ln, rfl, rfl, rfl, hl, hr, hc⟩ := h.nat
    have hm := h.1.2.2.1
    rw [poolZ, tab_len]
    simp only [Int.toNat_natCast]
    have h1 : rn / ln * (cn / ln) ≤ rn * cn := Nat.mul_le_mul (Nat.div_le_self _ _) (Nat.div_le_self _ _)
    have e : ((rn * cn : Nat) : Int) = (rn : Int) * (cn : Int) := by simp
    omega
  · simp
end Go.Proofs.Ytakjmdjjpalaiaa
