/- Contracts: random lists and matrices, the program's: the walk. -/
import Derived.Test.YtilmglockldddaaFnsR6
import Derived.Deep.QuietTactic
import Derived.BigQuiet
namespace Go.Proofs.Ytilmglockldddaa
open Go.RowKit Go.Shelf

attribute [local go_sem] Oper.semAt_some

theorem nestRL (w : World) (n : Nat) (s : Int) (hn : n ≤ 4096) : ∀ W, W = ((((w.alloc (.cells #[.int .i64 n] 3)).alloc (.cells (madeCells #[.int .i64 0] n) 3)).alloc (.cells #[.slice (some ⟨w.heap.size + 1, 0, none⟩) 0 n] 22)).alloc (.cells #[.int .i64 s] 3)).alloc (.cells #[.int .i64 s] 3) →
    RL w.heap.size s n 0 0 (.slice (some ⟨w.heap.size + 1, 0, none⟩) 0 n) W ∧ Below w.heap.size w W ∧ W.heap.size = w.heap.size + 5 := by
  rintro W rfl
  have g1 := World.grownBy_alloc w (.cells #[.int .i64 n] 3) none
  have c0 : (w.alloc (.cells #[.int .i64 n] 3)).cell? ⟨w.heap.size, 0, none⟩ = some (.int .i64 n) := World.cell?_alloc_at _ _ _ _ rfl
  obtain ⟨w1, hw1⟩ : ∃ w1, w.alloc (.cells #[.int .i64 n] 3) = w1 := ⟨_, rfl⟩
  have z1 : w1.heap.size = w.heap.size + 1 := by rw [← hw1]; simp
  rw [hw1] at c0 ⊢
  have hr : Row (w1.alloc (.cells (madeCells #[.int .i64 0] n) 3)) (w.heap.size + 1) (w1.heap.size + 1) (.slice (some ⟨w.heap.size + 1, 0, none⟩) 0 n) [] := by
    rw [← z1]
    exact ⟨World.ownsRow_made w1 _ n (Nat.le_refl _) (by simp only [maxLen]; omega) (by simp [madeCells]), fun g hg => by simp [Value.ownBlock] at hg; omega⟩
  have g2 := World.grownBy_alloc w1 (.cells (madeCells #[.int .i64 0] n) 3) none
  obtain ⟨w2, hw2⟩ : ∃ w2, w1.alloc (.cells (madeCells #[.int .i64 0] n) 3) = w2 := ⟨_, rfl⟩
  have z2 : w2.heap.size = w.heap.size + 2 := by rw [← hw2]; simp [z1]
  rw [hw2] at hr g2 ⊢
  have c2 : (w2.alloc (.cells #[.slice (some ⟨w.heap.size + 1, 0, none⟩) 0 n] 22)).cell? ⟨w.heap.size + 2, 0, none⟩ = some (.slice (some ⟨w.heap.size + 1, 0, none⟩) 0 n) := by rw [← z2]; exact World.cell?_alloc_at _ _ _ _ rfl
  have f2 : (w2.alloc (.cells #[.slice (some ⟨w.heap.size + 1, 0, none⟩) 0 n] 22)).frozen? ⟨w.heap.size + 2, 0, none⟩ = false := by rw [← z2]; exact frozen_new w2 _ _ 0
  have g3 := World.grownBy_alloc w2 (.cells #[.slice (some ⟨w.heap.size + 1, 0, none⟩) 0 n] 22) none
  obtain ⟨w3, hw3⟩ : ∃ w3, w2.alloc (.cells #[.slice (some ⟨w.heap.size + 1, 0, none⟩) 0 n] 22) = w3 := ⟨_, rfl⟩
  have z3 : w3.heap.size = w.heap.size + 3 := by rw [← hw3]; simp [z2]
  rw [hw3] at c2 f2 g3 ⊢
  have c3 : (w3.alloc (.cells #[.int .i64 s] 3)).cell? ⟨w.heap.size + 3, 0, none⟩ = some (.int .i64 s) := by rw [← z3]; exact World.cell?_alloc_at _ _ _ _ rfl
  have f3 : (w3.alloc (.cells #[.int .i64 s] 3)).frozen? ⟨w.heap.size + 3, 0, none⟩ = false := by rw [← z3]; exact frozen_new w3 _ _ 0
  have g4 := World.grownBy_alloc w3 (.cells #[.int .i64 s] 3) none
  obtain ⟨w4, hw4⟩ : ∃ w4, w3.alloc (.cells #[.int .i64 s] 3) = w4 := ⟨_, rfl⟩
  have z4 : w4.heap.size = w.heap.size + 4 := by rw [← hw4]; simp [z3]
  rw [hw4] at c3 f3 g4 ⊢
  have c4 : (w4.alloc (.cells #[.int .i64 s] 3)).cell? ⟨w.heap.size + 4, 0, none⟩ = some (.int .i64 s) := by rw [← z4]; exact World.cell?_alloc_at _ _ _ _ rfl
  have f4 : (w4.alloc (.cells #[.int .i64 s] 3)).frozen? ⟨w.heap.size + 4, 0, none⟩ = false := by rw [← z4]; exact frozen_new w4 _ _ 0
  have g5 := World.grownBy_alloc w4 (.cells #[.int .i64 s] 3) none
  have bel : Below w.heap.size w w1 := hw1 ▸ (Below.refl _ _).alloc (Nat.le_refl _) _
  refine ⟨⟨?_, ?_, ?_, ?_, ?_, ⟨c4, f4⟩, ?_, fun g hg => by simp [Value.ownBlock] at hg; omega⟩, ?_, by simp [z4]⟩
  · exact g5.cell (g4.cell (g3.cell (g2.cell c0 (by simp)) (by simp)) (by simp)) (by simp)
  · exact g5.cell (g4.cell c2 (by simp)) (by simp)
  · exact (frozen_grown g5 (show w.heap.size + 2 < w4.heap.size by omega) (by simp)).trans ((frozen_grown g4 (show w.heap.size + 2 < w3.heap.size by omega) (by simp)).trans f2)
  · exact g5.cell c3 (by simp)
  · exact (frozen_grown g5 (show w.heap.size + 3 < w4.heap.size by omega) (by simp)).trans f3
  · exact (((hr.grown g3 (fun g e => by cases e)).grown g4 (fun g e => by cases e)).grown g5 (fun g e => by cases e)).wider (Nat.le_refl _) (by simp; omega)
  · exact (((bel.grown g2 (by omega) (fun g e => by cases e)).grown g3 (by omega) (fun g e => by cases e)).grown g4 (by omega) (fun g e => by cases e)).grown g5 (by omega) (fun g e => by cases e)
set_option maxRecDepth 100000 in
set_option maxHeartbeats 4000000 in
theorem implRL_yes (s : Int) (n : Nat) (w : World) (hs : 1 ≤ s ∧ s ≤ 2147483646) (hn : n ≤ 4096) :
    Calls Try.prog 73 #[.int .i64 s, .int .i64 n] w fun e w' => ∃ v, e = .returned (.tuple #[v, .int .i64 (rSd s n)]) ∧ Row w' w.heap.size w'.heap.size v (rLs s n) ∧ Below w.heap.size w w' := by
  have hmk := fun W => run_make_room (P := Try.prog) 22 3 (.int .i64 0) 8 Try.underlying22 info_int rfl .i64 .i64 n (by omega) (by omega) W
  obtain ⟨W0, hW0⟩ : ∃ W, ((((w.alloc (.cells #[.int .i64 n] 3)).alloc (.cells (madeCells #[.int .i64 0] n) 3)).alloc (.cells #[.slice (some ⟨w.heap.size + 1, 0, none⟩) 0 n] 22)).alloc (.cells #[.int .i64 s] 3)).alloc (.cells #[.int .i64 s] 3) = W := ⟨_, rfl⟩
  obtain ⟨r0, hB0, hsz⟩ := nestRL w n s hn W0 hW0.symm
  have R0 := Lib.hid r0
  have HB0 := Lib.hid hB0
  have HS := Lib.hid hs
  have HSZ := Lib.hid hsz
  have hn0 : decide ((n : Int) < 0) = false := by simp
  have hn1 : decide ((4096 : Int) < (n : Int)) = false := by simp; omega
  have hsv := Lib.hid fun W => seedValid_yes s W hs.1 hs.2
  have hst := Lib.hid fun W => stream_any s W
  clear r0 hB0 hs hsz
  refine (callsIn_wide (n := 6)).1 ?_
  refine callsIn_of_wp_marks Try.func73 rfl trivial ?_ rfl
  simp only [Try.ntmps73, List.size_toArray, List.length_cons, List.length_nil, Nat.reduceAdd, Nat.reduceSub, Array.replicate_succ, Array.replicate_zero, List.push_toArray, List.append_toArray, List.nil_append, List.cons_append]
  gi_wp2_with (first
    | (refine ⟨trivial, ?_⟩; gi_at_call 58; refine (callsIn_wide.2 (hsv.out _)).mono ?_; rintro e w' ⟨rfl, rfl⟩)
    | (refine ⟨trivial, ?_⟩; gi_at_call 79; refine (callsIn_wide.2 (hst.out _)).mono ?_; rintro e w' ⟨rfl, rfl⟩))
  have HI : OwnFrom W0.heap.size (fun (k : Nat) W => k ≤ n ∧ (∃ v, RL w.heap.size s n k k v W) ∧ Below w.heap.size w W) := fun k A B row hs hg hr =>
    ⟨hs.1, hs.2.1.imp fun v r => r.turned hg (fun r e => (hr r e).2), hs.2.2.grown hg hs.2.2.size (fun j e => by have h1 := (hr j e).1; have h2 := HSZ.out; omega)⟩
  have HM : OwnFrom W0.heap.size (fun (k : Nat) W => k < n ∧ (∃ v, RL w.heap.size s n k (k + 1) v W) ∧ Below w.heap.size w W) := fun k A B row hs hg hr =>
    ⟨hs.1, hs.2.1.imp fun v r => r.turned hg (fun r e => (hr r e).2), hs.2.2.grown hg hs.2.2.size (fun j e => by have h1 := (hr j e).1; have h2 := HSZ.out; omega)⟩
  have HX : OwnFrom W0.heap.size (fun (c : Code) W => c = .exit 0 ∧ (∃ v, RL w.heap.size s n n n v W) ∧ Below w.heap.size w W) := fun k A B row hs hg hr =>
    ⟨hs.1, hs.2.1.imp fun v r => r.turned hg (fun r e => (hr r e).2), hs.2.2.grown hg hs.2.2.size (fun j e => by have h1 := (hr j e).1; have h2 := HSZ.out; omega)⟩
  refine range_endless (F := Fence.wide) (n := 6) rfl (by omega) (gf := 81) (lb := #[.pointer (some ⟨w.heap.size + 1 + 1 + 1 + 1, 0, none⟩)]) rfl trivial (enters_of Try.func81 (by kernel_rfl) rfl)
    (stream_endless s HS.out (w.heap.size + 1 + 1 + 1 + 1) n 5 (by omega)) (fun _ => rfl) _ _ _ HI HM HX
    (fun k A h => by obtain ⟨v, r⟩ := h.2.1; exact r.seed) (fun k A h => by obtain ⟨v, r⟩ := h.2.1; exact r.seed)
    (fun k A B h e => by subst e; obtain ⟨hk, ⟨v, r⟩, hb⟩ := h; exact ⟨by omega, ⟨v, r.step⟩, hb.setCell (p := ⟨w.heap.size + 4, 0, none⟩) (by simp) _⟩)
    (fun k A B e j hj hlt => by subst e; exact (set_grown A (w.heap.size + 4) 0 _).block j hlt (by have h2 := HSZ.out; simp; omega))
    ⟨Nat.zero_le _, ⟨_, R0.out⟩, HB0.out⟩
    (fun k => { tmps := #[.int .i64 s, .int .i64 n, undef, .pointer (some ⟨w.heap.size, 0, none⟩), .slice none 0 0, .int .i64 0, .pointer (some ⟨w.heap.size + 1 + 1, 0, none⟩), .pointer (some ⟨w.heap.size + 1 + 1 + 1, 0, none⟩), .int .i64 (rNum (rSd s (k + 1))), .int .i64 (rSd s (k + 1)), .int .i64 s, .bool true, .bool false, .bool false, .int .i64 n, .bool false, .bool false, .bool false, .int .i64 n, .bool false, .bool false, .int .i64 n, .slice (some ⟨w.heap.size + 1, 0, none⟩) 0 n, .int .i64 s, .int .i64 s, .func (.func 81) #[] #[.pointer (some ⟨w.heap.size + 1 + 1 + 1 + 1, 0, none⟩)], .int .i64 (rNum (rSd s (k + 1))), .int .i64 (rSd s (k + 1)), undef, undef, undef, undef, undef, undef, undef, undef, undef, undef, undef], defers := [] }) ?assign ?body ?stop
  case assign =>
    intro l k W K hK
    gi_wp2
    exact hK
  case body =>
    rintro l k W hsz2 ⟨hk, ⟨v, r⟩, hb⟩
    clear HI HM HX R0 HB0
    have hh : w.heap.size + 7 ≤ W.heap.size := by have h2 := HSZ.out; omega
    obtain ⟨A, cc, rfl, _, _, _⟩ := r.row.form
    have hrow := r.row
    have hl := rLs_len s k
    have c0 := r.many
    have c2 : W.cell? ⟨w.heap.size + 1 + 1, 0, none⟩ = some (.slice A (rLs s k).length cc) := r.list
    rw [hl] at c2
    rw [hl] at r
    have RR := Lib.hid r
    have HL := Lib.hid hl
    have HB := Lib.hid hb
    have hb1 := hb.size
    have hal := World.grownBy_alloc W (.cells #[.int .i64 (rNum (rSd s (k + 1)))] 3) none
    have hownA := (hrow.grown hal (fun g e => by cases e)).wider (Nat.le_refl _) (hi' := W.heap.size + 1) (by omega)
    rw [hl] at hownA
    clear r hb hrow hl hal
    by_cases hkn : k = n
    · subst hkn
      gi_wp2
      exact ⟨KeepsFrom.refl _ _, rfl, ⟨_, RR.out⟩, HB.out⟩
    · have hlt : k < n := by omega
      have hd1 : ((k : Int) == (n : Int)) = false := by simp; omega
      have hd2 : (k == n) = false := by simp; omega
      have HLT := Lib.hid hlt
      obtain ⟨q, hq⟩ : ∃ q, rSd s (k + 1) = q := ⟨_, rfl⟩
      obtain ⟨x, hx⟩ : ∃ x, rNum q = x := ⟨_, rfl⟩
      rw [hq, hx] at hownA
      simp only [hq, hx]
      have HQ := Lib.hid hq
      have HX := Lib.hid hx
      clear hq hx hlt hkn
      gi_wp2_with (gi_at_builtin; refine wpListIn_app1 rfl (.tmp 32) (.tmp 34) rfl (w.heap.size + 1) (W.heap.size + 1) (.slice A k cc) (rLs s k) rfl hownA W.heap.size x rfl (World.cell?_alloc_at _ _ _ _ rfl) (by rw [HL.out]; omega) (by simp; omega) ?_; intro v' w1 hr1 hg1 hat1; go_loud (
        obtain ⟨A1, cc1, hv1, _, _, _⟩ := hr1.form
        rw [show (rLs s k ++ [x]).length = k + 1 by rw [List.length_append, HL.out]; rfl] at hv1
        subst hv1
        have P := RR.out.put hh _ (by rw [HQ.out, HX.out]; exact hr1) hg1 hat1
        rw [HQ.out] at P
        have PB : Below w.heap.size w ((w1.setCell ⟨w.heap.size + 1 + 1, 0, none⟩ (.slice A1 (k + 1) cc1)).setCell ⟨w.heap.size + 1 + 1 + 1, 0, none⟩ (.int .i64 q)) := (((HB.out.alloc hb1 _).grown hg1 (by simp; omega) (fun g e => by have := P.2.2.2.2.2.2.2 g e; omega)).setCell (p := ⟨w.heap.size + 1 + 1, 0, none⟩) (by simp; omega) _).setCell (p := ⟨w.heap.size + 1 + 1 + 1, 0, none⟩) (by simp; omega) _
        obtain ⟨u2, c2'⟩ : ∃ u, w1.cell? ⟨w.heap.size + 1 + 1, 0, none⟩ = some u := P.2.2.1
        have f2' : w1.frozen? ⟨w.heap.size + 1 + 1, 0, none⟩ = false := P.2.2.2.1
        obtain ⟨u3, c3'⟩ : ∃ u, w1.cell? ⟨w.heap.size + 1 + 1 + 1, 0, none⟩ = some u := P.2.2.2.2.1
        have f3' : w1.frozen? ⟨w.heap.size + 1 + 1 + 1, 0, none⟩ = false := P.2.2.2.2.2.1
        have HP := Lib.hid (And.intro P.1 (And.intro P.2.1 PB))
        clear P PB hr1 hg1 hat1))
      exact ⟨HP.out.2.1.from _, ⟨HLT.out, ⟨_, HP.out.1⟩, HP.out.2.2⟩, HLT.out⟩
  case stop =>
    rintro D c W hD ⟨rfl, ⟨v, r⟩, hb⟩ hK
    clear HI HM HX R0 HB0
    have c2 : W.cell? ⟨w.heap.size + 1 + 1, 0, none⟩ = some v := r.list
    have c3 : W.cell? ⟨w.heap.size + 1 + 1 + 1, 0, none⟩ = some (.int .i64 (rSd s n)) := r.last
    obtain ⟨A, cc, rfl, _, _, _⟩ := r.row.form
    have RR := Lib.hid r
    have HB := Lib.hid hb
    clear r hb
    gi_wp2
    rename_i K' hK'
    have HK' := Lib.hid hK'
    clear hK'
    refine wpIn_wide.2 ?_
    go_quiet (fail)
    have hD2 : Drew W (W.drewN nq) := ⟨nq, rfl⟩
    have hK2 : (W.drewN nq).heap[D]? = some (.deferred (some [])) := hK
    have r1 := RR.out.turned (hD2.grown none) (fun r e => by cases e)
    have b1 := HB.out.trans (hD2.below _)
    obtain ⟨X, hX⟩ : ∃ X, W.drewN nq = X := ⟨_, rfl⟩
    rw [hX] at hK2 r1 b1 ⊢
    have r2 := r1.turned (grownBy_putObj' X D (.deferred none)) (fun r e => by cases e; exact ⟨_, hK2, rfl⟩)
    have b2 := b1.grown (grownBy_putObj' X D (.deferred none)) b1.size (fun k e => by cases e; have h2 := HSZ.out; omega)
    have RW := Lib.hid (r2.row.wider (show w.heap.size ≤ w.heap.size + 1 by omega) (Nat.le_refl _))
    have BW := Lib.hid b2
    clear hX r1 r2 b1 b2 hK hD2 RR HB
    refine HK'.out _ _ ?_
    gi_wp2
    refine ⟨by simp, .inl ⟨_, _, rfl, run_takeDeferred hK2, ?_⟩⟩
    refine ⟨.tuple #[.slice A (rLs s n).length cc, .int .i64 (rSd s n)], ?_, _, rfl, RW.out, BW.out⟩
    simp [results, Try.results73, go_sem]
end Go.Proofs.Ytilmglockldddaa
