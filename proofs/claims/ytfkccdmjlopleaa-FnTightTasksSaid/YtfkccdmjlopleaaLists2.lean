/- Contracts of the functions that mark lists of numbers and look whether the marks held. -/
import Derived.Test.YtfkccdmjlopleaaLists
namespace Go.Proofs.Ytfkccdmjlopleaa
open Go.RowKit

theorem Row.sl_now {w : World} {lo hi : Nat} {A : Option Addr} {c : Nat} {zs : List Int} (h : Row w lo hi (.slice A zs.length c) zs) : Sl w hi A zs := by
  obtain ⟨A', c', hv, _, _, hs⟩ := h.form
  injection hv with h1
  subst h1
  exact hs
theorem Row.sl_of {w : World} {lo hi : Nat} {A : Option Addr} {c n : Nat} {zs : List Int} (h : Row w lo hi (.slice A n c) zs) : n = zs.length ∧ Sl w hi A zs := by
  obtain ⟨A', c', hv, _, _, hs⟩ := h.form
  injection hv with h1 h2
  subst h1 h2
  exact ⟨rfl, hs⟩

/-- The same world, but for what was drawn. -/
def Drew (w w' : World) : Prop := ∃ d, w' = w.drewN d
theorem Drew.refl (w : World) : Drew w w := ⟨0, rfl⟩
theorem Drew.one (w : World) (d : Nat) : Drew w (w.drewN d) := ⟨d, rfl⟩
theorem Drew.trans {a b c : World} (h : Drew a b) (k : Drew b c) : Drew a c := by
  obtain ⟨d, rfl⟩ := h
  obtain ⟨e, rfl⟩ := k
  exact ⟨d + e, by simp⟩
theorem Drew.more {a b : World} (h : Drew a b) (d : Nat) : Drew a (b.drewN d) := h.trans (Drew.one b d)
theorem Drew.below {a b : World} (h : Drew a b) (B : Nat) : Below B a b := by
  obtain ⟨d, rfl⟩ := h
  exact below_drewN (Below.refl _ _) d
theorem Drew.sl {a b : World} (h : Drew a b) {B : Nat} {A : Option Addr} {zs : List Int} (hs : Sl a B A zs) : Sl b B A zs := by
  obtain ⟨d, rfl⟩ := h
  exact hs.keep fun _ _ => rfl
theorem Drew.row {a b : World} (h : Drew a b) {lo hi : Nat} {v : Value} {zs : List Int} (hs : Row a lo hi v zs) : Row b lo hi v zs := hs.below (h.below _) (Nat.le_refl _)
theorem Drew.grown {a b : World} (h : Drew a b) (row : Option Nat) : a.grownBy b row := by
  obtain ⟨d, rfl⟩ := h
  exact ⟨rfl, rfl, rfl, Nat.le_refl _, fun _ _ _ => rfl⟩
theorem Drew.size {a b : World} (h : Drew a b) : b.heap.size = a.heap.size := by
  obtain ⟨d, rfl⟩ := h
  rfl
theorem gtrans' {a b c : World} {row : Option Nat} (h : a.grownBy b row) (k : b.grownBy c row) : a.grownBy c row :=
  ⟨k.os.trans h.os, k.tape.trans h.tape, k.output.trans h.output, Nat.le_trans h.size k.size, fun i hi hne => (k.block i (Nat.lt_of_lt_of_le hi h.size) hne).trans (h.block i hi hne)⟩

/-- n numbers from k on. -/
def marks (k : Int) (n : Nat) : List Int := (List.range n).map fun (j : Nat) => k + (j : Int)
theorem marks_length (k : Int) (n : Nat) : (marks k n).length = n := by simp [marks]
theorem marks_getD (k : Int) (n j : Nat) (hj : j < n) : (marks k n).getD j 0 = k + j := by
  rw [show (marks k n).getD j 0 = (marks k n)[j]'(by rw [marks_length]; exact hj) by simp [marks_length, hj]]
  simp [marks]
theorem marks_succ (k : Int) (n : Nat) : marks k (n + 1) = marks k n ++ [k + (n : Int)] := by simp [marks, List.range_succ]
/-- The first i numbers of zs marked. -/
def marksTo (k : Int) (zs : List Int) (i : Nat) : List Int := marks k i ++ zs.drop i
theorem marksTo_zero (k : Int) (zs : List Int) : marksTo k zs 0 = zs := by simp [marksTo, marks]
theorem marksTo_full (k : Int) (zs : List Int) : marksTo k zs zs.length = marks k zs.length := by simp [marksTo]
theorem marksTo_length (k : Int) (zs : List Int) (i : Nat) (hi : i ≤ zs.length) : (marksTo k zs i).length = zs.length := by simp [marksTo, marks_length]; omega
theorem marksTo_succ (k : Int) (zs : List Int) (i : Nat) (hi : i < zs.length) : marksTo k zs (i + 1) = (marksTo k zs i).set i (k + (i : Int)) := by
  unfold marksTo
  rw [marks_succ, List.set_append_right _ _ (by rw [marks_length]; omega), marks_length, Nat.sub_self, List.append_assoc]
  congr 1
  rw [List.drop_eq_getElem_cons hi]
  rfl
theorem Row.stored {w : World} {lo hi : Nat} {g n c : Nat} {zs : List Int} (h : Row w lo hi (.slice (some ⟨g, 0, none⟩) n c) zs) (j : Nat) (z : Int) :
    Row (w.setCell ⟨g, j, none⟩ (.int .i64 z)) lo hi (.slice (some ⟨g, 0, none⟩) n c) (zs.set j z) ∧ w.grownBy (w.setCell ⟨g, j, none⟩ (.int .i64 z)) (some g) := by
  obtain ⟨rfl, _⟩ := h.sl_of
  obtain ⟨h1, h2⟩ := h
  have h3 := h1.stored j (.int .i64 z)
  rw [← List.map_set] at h3
  refine ⟨⟨?_, h2⟩, h3.2⟩
  rw [List.length_set]
  exact h3.1
theorem Row.cell_ {w : World} {lo hi : Nat} {A : Option Addr} {n c : Nat} {zs : List Int} (h : Row w lo hi (.slice A n c) zs) {j : Nat} (hj : j < zs.length) :
    ∃ g, A = some ⟨g, 0, none⟩ ∧ lo ≤ g ∧ g < hi ∧ w.cell? ⟨g, j, none⟩ = some (.int .i64 (zs.getD j 0)) ∧ w.frozen? ⟨g, j, none⟩ = false := by
  obtain ⟨rfl, _⟩ := h.sl_of
  rcases h.1.2 with ⟨hv, hn⟩ | ⟨g, cap, cur, hv, _⟩
  · omega
  · injection hv with h1 h2 h3
    subst h1
    have h4 := h.block_lt g rfl
    refine ⟨g, rfl, h4.1, h4.2, ?_, h.1.frozenAt j⟩
    rw [h.1.cellAt j (by omega)]
    simp [hj]

/-- append of one number onto a row of the call's own. -/
theorem wpList_app1 {w : World} {ops : Array Oper} {rest : List Oper} {o : Oper} {a : Act} {Q : Exit → Act → World → Prop} (hw : o.guard = none) (s x : Operand)
    (ho : o.op = .call { callee := .builtin .append, args := #[s, x], argTypes := #[29, 29] })
    (lo hi : Nat) (v : Value) (ys : List Int) (hsv : a.eval s = v) (hrow : Row w lo hi v ys) (g : Nat) (z : Int) (hx : a.eval x = .slice (some ⟨g, 0, none⟩) 1 1) (hz : w.cell? ⟨g, 0, none⟩ = some (.int .i64 z))
    (hn : ys.length ≤ 2000000) (hlo : lo ≤ w.heap.size)
    (h : ∀ v' w', Row w' lo w'.heap.size v' (ys ++ [z]) → w.grownBy w' v.ownBlock → wpList Try.prog ops Q rest (a.put o.dst v') w') : wpList Try.prog ops Q (o :: rest) a w := by
  obtain ⟨i0, hi0, hz0, hz1, hz2⟩ := info_parts info_int
  refine wpList_append_own _ hw s x 29 ho lo 3 i0 (.int .i64 0) 1 8 Try.underlying29 hi0 hz0 hz1 hz2 rfl (by decide) v ys.length _ hsv hrow.1 ⟨g, 0, none⟩ 1 1 [.int .i64 z] hx rfl ?_ (by intro u hu; simp at hu; subst hu; rfl) (by simp only [maxLen]; omega) (by omega) hlo ?_
  · intro j u hj
    match j, hj with
    | 0, hj => simp at hj; subst hj; simpa [Addr.add] using hz
  · intro v' w' h1 h2 _
    exact h v' w' ⟨by simpa using h1, fun g hg => (h1.lt g hg).2⟩ h2

set_option maxHeartbeats 400000 in
theorem markIntS_any (lo hi : Nat) (A : Option Addr) (c n : Nat) (zs : List Int) (k : Int) (w : World) (h : Row w lo hi (.slice A n c) zs) (hn : zs.length ≤ 2000000) (k0 : 0 ≤ k) (k1 : k ≤ 4000000000000000000) :
    Calls Try.prog 22 #[.slice A n c, .int .i64 k] w fun e w' => e = .returned (.int .i64 (k + (n : Int))) ∧ Row w' lo hi (.slice A n c) (marks k n) ∧ w.grownBy w' (Value.slice A n c).ownBlock := by
  obtain ⟨rfl, _⟩ := h.sl_of
  go_enter Try.func22, Try.ntmps22
  go_wp2
  go_loopw [1, 5] (fun m i wr => ∃ j : Nat, j ≤ zs.length ∧ i = .int .i64 j ∧ m = .int .i64 (k + (j : Int)) ∧ Row wr lo hi (.slice A zs.length c) (marksTo k zs j) ∧ w.grownBy wr (Value.slice A zs.length c).ownBlock) (fun _ i _ => zs.length - (intOf i).toNat)
  case atStart => exact ⟨0, Nat.zero_le _, rfl, by simp, by rw [marksTo_zero]; exact h, World.grownBy.refl w _⟩
  case round =>
    obtain ⟨j, hj, rfl, rfl, hrow, hg⟩ := hrel
    clear h
    by_cases hlt : j < zs.length
    · obtain ⟨g, rfl, _, _, hc, hf⟩ := hrow.cell_ (j := j) (by rw [marksTo_length _ _ _ hj]; exact hlt)
      obtain ⟨z, hz⟩ : ∃ z, (marksTo k zs j).getD j 0 = z := ⟨_, rfl⟩
      rw [hz] at hc
      clear hz
      have S := Lib.hid (hrow.stored j (k + (j : Int)))
      have HM := Lib.hid (marksTo_succ k zs j hlt)
      clear hrow
      go_wp2
      go_roundw
      case rel => exact ⟨j + 1, by omega, by go_num, by go_num, by rw [HM.out]; exact S.out.1, gtrans' hg S.out.2⟩
      case measure => simp [intOf]; omega
    · have e : j = zs.length := by omega
      subst e
      rw [marksTo_full] at hrow
      go_wp2
      go_ret
      exact ⟨rfl, hrow, hg⟩
/-- Marks that were held are held. -/
theorem heldIntS_same (B : Nat) (A : Option Addr) (c n : Nat) (k : Int) (w : World) (h : Sl w B A (marks k n)) (hn : n ≤ 2000000) (k0 : 0 ≤ k) (k1 : k ≤ 4000000000000000000) :
    Calls Try.prog 23 #[.slice A n c, .int .i64 k] w fun e w' => e = .returned (.int .i64 (k + (n : Int))) ∧ w = w' := by
  have H := Lib.hid h
  clear h
  go_enter Try.func23, Try.ntmps23
  go_wp2
  go_loop [1, 5] (fun m i => ∃ j : Nat, j ≤ n ∧ i = .int .i64 j ∧ m = .int .i64 (k + (j : Int))) (fun _ i => n - (intOf i).toNat)
  case atStart => exact ⟨0, Nat.zero_le _, rfl, by simp⟩
  case round =>
    obtain ⟨j, hj, rfl, rfl⟩ := hrel
    by_cases hlt : j < n
    · obtain ⟨b, off, rfl, _, hc⟩ := H.out.at_ (k := j) (by rw [marks_length]; exact hlt)
      rw [marks_getD k n j hlt] at hc
      go_wp2
      go_round
      case rel => exact ⟨j + 1, by omega, by go_num, by go_num⟩
      case measure => simp [intOf]; omega
    · have e : j = n := by omega
      subst e
      go_wp2
      go_ret
      exact ⟨rfl, rfl⟩
/-- Two lists that read the same are the same. -/
theorem sameInts_same (B B' : Nat) (A A' : Option Addr) (c c' n n' : Nat) (zs : List Int) (w : World) (h1 : Sl w B A zs) (h2 : Sl w B' A' zs) (e1 : n = zs.length) (e2 : n' = zs.length) (hn : zs.length ≤ 4611686018427387904) :
    Calls Try.prog 25 #[.slice A n c, .slice A' n' c'] w fun e w' => e = .returned (.bool true) ∧ Drew w w' := by
  subst e1 e2
  have H1 := Lib.hid h1
  have H2 := Lib.hid h2
  clear h1 h2
  go_enter Try.func25, Try.ntmps25
  go_wp2
  go_loopw [5] (fun i wr => ∃ k : Nat, k ≤ zs.length ∧ i = .int .i64 k ∧ Drew w wr) (fun i _ => zs.length - (intOf i).toNat)
  case atStart => exact ⟨0, Nat.zero_le _, rfl, Drew.refl w⟩
  case round =>
    obtain ⟨k, hk, rfl, hd⟩ := hrel
    by_cases hlt : k < zs.length
    · obtain ⟨b, off, rfl, _, hc⟩ := (hd.sl H1.out).at_ hlt
      obtain ⟨b', off', rfl, _, hc'⟩ := (hd.sl H2.out).at_ hlt
      obtain ⟨z, hz⟩ : ∃ z, zs.getD k 0 = z := ⟨_, rfl⟩
      rw [hz] at hc hc'
      clear hz
      go_wp2
      go_quiet (fail)
      go_wp2
      go_roundw
      case rel => exact ⟨k + 1, by omega, by go_num, hd.more _⟩
      case measure => simp [intOf]; omega
    · go_wp2
      go_ret
      exact ⟨rfl, hd⟩
end Go.Proofs.Ytfkccdmjlopleaa
