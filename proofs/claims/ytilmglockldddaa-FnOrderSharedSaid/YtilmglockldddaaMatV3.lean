/- Contracts on matrices that the laws share: sizes, copies, equality, marks. -/
import Derived.Test.YtilmglockldddaaMatV2
namespace Go.Proofs.Ytilmglockldddaa
open Go.RowKit

theorem eqM_same (r c : Int) (A A' : Option Addr) (k k' : Nat) (zs : List Int) (w : World) (h1 : Sl w w.heap.size A zs) (h2 : Sl w w.heap.size A' zs) (hn : zs.length ≤ 4611686018427387904) :
    Calls Try.prog 19 #[matV r c (.slice A zs.length k), matV r c (.slice A' zs.length k')] w fun e w' => e = .returned (.bool true) ∧ Below w.heap.size w w' := by
  have hb : Below w.heap.size w ((w.alloc (.cells #[.int .i64 r, .int .i64 c, .slice A zs.length k] 33)).alloc (.cells #[.int .i64 r, .int .i64 c, .slice A' zs.length k'] 33)) := ((Below.refl _ _).alloc (Nat.le_refl _) _).alloc (by simp) _
  have hs1 := Lib.hid ((h1.below hb (Nat.le_refl _)).more hb.size)
  have hs2 := Lib.hid ((h2.below hb (Nat.le_refl _)).more hb.size)
  clear h1 h2
  go_enter Try.func19, Try.ntmps19
  go_wp2_with fail
  refine (eqIntS_same A A' k k' zs _ hs1.out hs2.out hn).mono ?_
  rintro e w' ⟨rfl, hb2⟩
  go_wp2
  go_ret
  exact ⟨rfl, hb.trans (hb2.mono hb.size)⟩

theorem szIntS_anyM (A : Option Addr) (n c : Nat) (left : Int) (w : World) (h0 : 0 ≤ left) (h1 : left ≤ 1048576) (hn : n ≤ 9223372036854775807) :
    Calls Try.prog 43 #[.slice A n c, .int .i64 left] w fun e w' => e = .returned (.int .i64 (if left < (n : Int) then -1 else left - (n : Int))) ∧ w = w' := by
  by_cases h : left < (n : Int)
  · rw [if_pos h]
    have hd : decide (left - (n : Int) < 0) = true := by simp; omega
    go_enter Try.func43, Try.ntmps43
    go_wp2
    go_ret
    exact ⟨rfl, rfl⟩
  · rw [if_neg h]
    have hd : decide (left - (n : Int) < 0) = false := by simp; omega
    go_enter Try.func43, Try.ntmps43
    go_wp2
    go_ret
    exact ⟨rfl, rfl⟩
theorem szM_any (r c : Int) (A : Option Addr) (n k : Nat) (left : Int) (w : World) (h0 : 0 ≤ left) (h1 : left ≤ 1048576) (hn : n ≤ 9223372036854775807) :
    Calls Try.prog 15 #[matV r c (.slice A n k), .int .i64 left] w fun e w' => e = .returned (.int .i64 (if left < (n : Int) then -1 else left - (n : Int))) ∧ Below w.heap.size w w' := by
  have hb : Below w.heap.size w (w.alloc (.cells #[.int .i64 r, .int .i64 c, .slice A n k] 31)) := (Below.refl _ _).alloc (Nat.le_refl _) _
  have hS := szIntS_anyM A n k left (w.alloc (.cells #[.int .i64 r, .int .i64 c, .slice A n k] 31)) h0 h1 hn
  by_cases h : left < (n : Int)
  · rw [if_pos h] at hS ⊢
    go_enter Try.func15, Try.ntmps15
    go_wp2_with fail
    refine hS.mono ?_
    rintro e w' ⟨rfl, rfl⟩
    clear hS
    go_wp2
    go_ret
    exact ⟨rfl, hb⟩
  · rw [if_neg h] at hS ⊢
    have hd : decide (left - (n : Int) < 0) = false := by simp; omega
    go_enter Try.func15, Try.ntmps15
    go_wp2_with fail
    refine hS.mono ?_
    rintro e w' ⟨rfl, rfl⟩
    clear hS
    go_wp2
    go_ret
    exact ⟨rfl, hb⟩
theorem markM_any (lo hi : Nat) (r c : Int) (A : Option Addr) (cap : Nat) (zs : List Int) (k : Int) (w : World) (h : Row w lo hi (.slice A zs.length cap) zs) (_ : hi ≤ w.heap.size) (hn : zs.length ≤ 2000000) (k0 : 0 ≤ k) (k1 : k ≤ 4000000000000000000) :
    Calls Try.prog 20 #[matV r c (.slice A zs.length cap), .int .i64 k] w fun e w' => e = .returned (.int .i64 (k + (zs.length : Int))) ∧ Row w' lo hi (.slice A zs.length cap) (marks k zs.length) ∧ Span lo hi w w' := by
  have hg := World.grownBy_alloc w (.cells #[.int .i64 r, .int .i64 c, .slice A zs.length cap] 33) none
  have hr := Lib.hid (h.grown hg (fun g e => by cases e))
  have HSP := Lib.hid (Span.of_grown (lo := lo) (hi := hi) hg (fun g e => by cases e))
  have hbl := Lib.hid h.block_lt
  clear h hg
  go_enter Try.func20, Try.ntmps20
  go_wp2_with fail
  refine (markIntS_any lo hi A cap _ zs k _ hr.out hn k0 k1).mono ?_
  rintro e w' ⟨rfl, hrm, hgr⟩
  have HRM := Lib.hid hrm
  have HS2 := Lib.hid (HSP.out.trans (Span.of_grown hgr (fun g e => hbl.out g e)))
  clear hrm hgr
  go_wp2
  go_ret
  exact ⟨rfl, HRM.out, HS2.out⟩
theorem heldM_same (B : Nat) (r c : Int) (A : Option Addr) (cap n : Nat) (k : Int) (w : World) (h : Sl w B A (marks k n)) (hB : B ≤ w.heap.size) (hn : n ≤ 2000000) (k0 : 0 ≤ k) (k1 : k ≤ 4000000000000000000) :
    Calls Try.prog 22 #[matV r c (.slice A n cap), .int .i64 k] w fun e w' => e = .returned (.int .i64 (k + (n : Int))) ∧ Below w.heap.size w w' := by
  have hb : Below w.heap.size w (w.alloc (.cells #[.int .i64 r, .int .i64 c, .slice A n cap] 33)) := (Below.refl _ _).alloc (Nat.le_refl _) _
  have hs := Lib.hid (h.below hb hB)
  have hd : decide (k + (n : Int) < 0) = false := by simp; omega
  clear h
  go_enter Try.func22, Try.ntmps22
  go_wp2_with fail
  refine (heldIntS_same B A cap n k _ hs.out hn k0 k1).mono ?_
  rintro e w' ⟨rfl, rfl⟩
  go_wp2
  go_ret
  exact ⟨rfl, hb⟩
theorem sameM_same (r c : Int) (A A' : Option Addr) (k k' : Nat) (zs : List Int) (w : World) (h1 : Sl w w.heap.size A zs) (h2 : Sl w w.heap.size A' zs) (hn : zs.length ≤ 4611686018427387904) :
    Calls Try.prog 24 #[matV r c (.slice A zs.length k), matV r c (.slice A' zs.length k')] w fun e w' => e = .returned (.bool true) ∧ Below w.heap.size w w' := by
  have hb : Below w.heap.size w ((w.alloc (.cells #[.int .i64 r, .int .i64 c, .slice A zs.length k] 33)).alloc (.cells #[.int .i64 r, .int .i64 c, .slice A' zs.length k'] 33)) := ((Below.refl _ _).alloc (Nat.le_refl _) _).alloc (by simp) _
  have hs1 := Lib.hid ((h1.below hb (Nat.le_refl _)).more hb.size)
  have hs2 := Lib.hid ((h2.below hb (Nat.le_refl _)).more hb.size)
  clear h1 h2
  go_enter Try.func24, Try.ntmps24
  go_wp2_with fail
  refine (sameInts_same _ _ A A' k k' _ _ zs _ hs1.out hs2.out rfl rfl hn).mono ?_
  rintro e w' ⟨rfl, hd⟩
  go_wp2
  go_ret
  exact ⟨rfl, hb.trans (hd.below _)⟩

theorem nest_to (w : World) (r c : Int) (s : Value) : ∀ W, W = ((w.alloc (.cells #[.int .i64 r, .int .i64 c, s] 31)).alloc (.cells #[.int .i64 0, .int .i64 0, .slice none 0 0] 33)).alloc (.cells #[.int .i64 0, .int .i64 0, .slice none 0 0] 33) →
    Cell3 W w.heap.size (.int .i64 r) (.int .i64 c) s ∧ Cell3 W (w.heap.size + 1) (.int .i64 0) (.int .i64 0) (.slice none 0 0) ∧ Cell3 W (w.heap.size + 1 + 1) (.int .i64 0) (.int .i64 0) (.slice none 0 0) ∧ Below w.heap.size w W ∧ W.heap.size = w.heap.size + 3 := by
  rintro W rfl
  have a := Cell3.new w (.int .i64 r) (.int .i64 c) s 31
  have b := Cell3.new (w.alloc (.cells #[.int .i64 r, .int .i64 c, s] 31)) (.int .i64 0) (.int .i64 0) (.slice none 0 0) 33
  have c' := Cell3.new ((w.alloc (.cells #[.int .i64 r, .int .i64 c, s] 31)).alloc (.cells #[.int .i64 0, .int .i64 0, .slice none 0 0] 33)) (.int .i64 0) (.int .i64 0) (.slice none 0 0) 33
  simp only [World.size_alloc] at b c'
  exact ⟨(a.alloc _).alloc _, b.alloc _, c', (((Below.refl _ _).alloc (Nat.le_refl _) _).alloc (by simp) _).alloc (by simp; omega) _, by simp⟩

set_option maxHeartbeats 800000 in
theorem toM_any (r c : Int) (A : Option Addr) (cap n B : Nat) (zs : List Int) (w : World) (hs : Sl w B A zs) (hB : B ≤ w.heap.size) (e : n = zs.length) (hn : n ≤ 1100000) :
    Calls Try.prog 17 #[matV r c (.slice A n cap)] w fun e w' => ∃ s, e = .returned (matV r c s) ∧ Row w' w.heap.size w'.heap.size s zs ∧ Below w.heap.size w w' := by
  subst e
  obtain ⟨W, hW⟩ : ∃ W, ((w.alloc (.cells #[.int .i64 r, .int .i64 c, .slice A zs.length cap] 31)).alloc (.cells #[.int .i64 0, .int .i64 0, .slice none 0 0] 33)).alloc (.cells #[.int .i64 0, .int .i64 0, .slice none 0 0] 33) = W := ⟨_, rfl⟩
  obtain ⟨q0, q1, q2, qb, qs⟩ := nest_to w r c (.slice A zs.length cap) W hW.symm
  have hsW := hs.below qb hB
  go_enter Try.func17, Try.ntmps17
  have Q1 := Lib.hid ((q1.far (a := ⟨w.heap.size + 1 + 1, 0, none⟩) (by simp) (.int .i64 r)).far (a := ⟨w.heap.size + 1 + 1, 1, none⟩) (by simp) (.int .i64 c))
  have Q2 := Lib.hid ((q2.set0 (.int .i64 r)).set1 (.int .i64 c))
  have QB := Lib.hid ((qb.setCell (p := ⟨w.heap.size + 1 + 1, 0, none⟩) (by simp; omega) (.int .i64 r)).setCell (p := ⟨w.heap.size + 1 + 1, 1, none⟩) (by simp; omega) (.int .i64 c))
  have QS : ((W.setCell ⟨w.heap.size + 1 + 1, 0, none⟩ (.int .i64 r)).setCell ⟨w.heap.size + 1 + 1, 1, none⟩ (.int .i64 c)).heap.size = w.heap.size + 3 := by simp [qs]
  obtain ⟨a0, a1, a2, _, _, _, alt⟩ := q0
  obtain ⟨b0, b1, b2, g0, g1, g2, blt⟩ := q1
  obtain ⟨d0, d1, d2, e0, e1, e2, dlt⟩ := q2
  go_wp2_with fail
  clear a0 a1 a2 b0 b1 b2 d0 d1 d2 g0 g1 g2 e0 e1 e2 alt blt dlt qb hsW
  obtain ⟨V, hV⟩ : ∃ V, ((W.setCell ⟨w.heap.size + 1 + 1, 0, none⟩ (.int .i64 r)).setCell ⟨w.heap.size + 1 + 1, 1, none⟩ (.int .i64 c)) = V := ⟨_, rfl⟩
  rw [hV] at Q1 Q2 QB QS ⊢
  refine (toIntS_any A cap zs V ((hs.below QB.out hB).more (by omega)) (by omega)).mono ?_
  rintro e w2 ⟨v2, rfl, hr2, hb2⟩
  obtain ⟨A2, c2, rfl, _, _, _⟩ := hr2.form
  have hsz2 := hb2.size
  have P1 := Q1.out.below hb2 (by omega)
  have P2 := Q2.out.below hb2 (by omega)
  have HR2 := Lib.hid hr2
  have HBEL := Lib.hid (QB.out.trans (hb2.mono (by omega)))
  have P1' := Lib.hid P1
  obtain ⟨b0, b1, b2, g0, g1, g2, blt⟩ := P1
  obtain ⟨d0, d1, d2, e0, e1, e2, dlt⟩ := P2
  clear hr2 hb2 Q1 Q2 QB
  go_wp2
  have P2 := (((P1'.out.far (a := ⟨w.heap.size + 1 + 1, 2, none⟩) (by simp) (.slice A2 zs.length c2)).set0 (.int .i64 r)).set1 (.int .i64 c)).set2 (.slice A2 zs.length c2)
  have R1 := HR2.out.grown (set_grown w2 (w.heap.size + 1 + 1) 2 (.slice A2 zs.length c2)) (fun g e => by cases e; left; omega)
  have R2 := R1.grown (set_grown _ (w.heap.size + 1) 0 (.int .i64 r)) (fun g e => by cases e; left; omega)
  have R3 := R2.grown (set_grown _ (w.heap.size + 1) 1 (.int .i64 c)) (fun g e => by cases e; left; omega)
  have R4 := R3.grown (set_grown _ (w.heap.size + 1) 2 (.slice A2 zs.length c2)) (fun g e => by cases e; left; omega)
  have B4 := (((HBEL.out.setCell (p := ⟨w.heap.size + 1 + 1, 2, none⟩) (by simp; omega) (.slice A2 zs.length c2)).setCell (p := ⟨w.heap.size + 1, 0, none⟩) (by simp) (.int .i64 r)).setCell (p := ⟨w.heap.size + 1, 1, none⟩) (by simp) (.int .i64 c)).setCell (p := ⟨w.heap.size + 1, 2, none⟩) (by simp) (.slice A2 zs.length c2)
  have S4 : (((((w2.setCell ⟨w.heap.size + 1 + 1, 2, none⟩ (.slice A2 zs.length c2)).setCell ⟨w.heap.size + 1, 0, none⟩ (.int .i64 r)).setCell ⟨w.heap.size + 1, 1, none⟩ (.int .i64 c)).setCell ⟨w.heap.size + 1, 2, none⟩ (.slice A2 zs.length c2)).heap.size) = w2.heap.size := by simp
  obtain ⟨W4, hW4⟩ : ∃ W4, ((((w2.setCell ⟨w.heap.size + 1 + 1, 2, none⟩ (.slice A2 zs.length c2)).setCell ⟨w.heap.size + 1, 0, none⟩ (.int .i64 r)).setCell ⟨w.heap.size + 1, 1, none⟩ (.int .i64 c)).setCell ⟨w.heap.size + 1, 2, none⟩ (.slice A2 zs.length c2)) = W4 := ⟨_, rfl⟩
  rw [hW4] at P2 R4 B4 S4 ⊢
  obtain ⟨x0, x1, x2, _, _, _, _⟩ := P2
  refine bodyPost_ret (v := matV r c (.slice A2 zs.length c2)) (by simp [results, Try.results17, go_sem, x0, x1, x2]) rfl ?_
  exact ⟨_, rfl, R4.wider (by omega) (by omega), B4⟩
end Go.Proofs.Ytilmglockldddaa
