/- Contracts of the functions on lists of lists that the exact laws share: sizes, copies, equality, marks. -/
import Derived.Test.YtfkccdmjlopleaaMemSS
namespace Go.Proofs.Ytfkccdmjlopleaa
open Go.RowKit

theorem info_ints : (Try.prog.info? 29).map (fun i => (i.zero, i.size, i.bytes)) = some (some (.slice none 0 0), 1, 24) := by kernel_rfl

theorem szIntS_any (A : Option Addr) (n c : Nat) (left : Int) (w : World) (h0 : 0 ≤ left) (h1 : left ≤ 1048576) (hn : n ≤ 9223372036854775807) :
    Calls Try.prog 32 #[.slice A n c, .int .i64 left] w fun e w' => e = .returned (.int .i64 (if left < (n : Int) then -1 else left - (n : Int))) ∧ w = w' := by
  by_cases h : left < (n : Int)
  · rw [if_pos h]
    have hd : decide (left - (n : Int) < 0) = true := by simp; omega
    go_enter Try.func32, Try.ntmps32
    go_wp2
    go_ret
    exact ⟨rfl, rfl⟩
  · rw [if_neg h]
    have hd : decide (left - (n : Int) < 0) = false := by simp; omega
    go_enter Try.func32, Try.ntmps32
    go_wp2
    go_ret
    exact ⟨rfl, rfl⟩

/-- The lists are small: not more than m, and none longer than m. -/
def Small (m : Nat) (zss : List (List Int)) : Prop := zss.length ≤ m ∧ ∀ k, k < zss.length → (at2 zss k).length ≤ m

theorem szIntSS_any (A : Option Addr) (c B : Nat) (zss : List (List Int)) (w : World) (hs : SS w B A zss) (hn : zss.length ≤ 9223372036854775807) :
    Calls Try.prog 11 #[.slice A zss.length c, .int .i64 1048576] w fun e w' => ∃ r : Int, e = .returned (.int .i64 r) ∧ (r = -1 ∨ (0 ≤ r ∧ r ≤ 1048576 ∧ Small 1048576 zss)) ∧ w = w' := by
  have HS := Lib.hid hs
  clear hs
  by_cases hl : 1048576 < zss.length
  · have hd : decide (1048576 - (zss.length : Int) < 0) = true := by simp; omega
    go_enter Try.func11, Try.ntmps11
    go_wp2
    go_ret
    exact ⟨-1, rfl, .inl rfl, rfl⟩
  have hd : decide (1048576 - (zss.length : Int) < 0) = false := by simp; omega
  go_enter Try.func11, Try.ntmps11
  go_wp2
  go_loop [1, 5] (fun r i => ∃ (k : Nat) (q : Int), k ≤ zss.length ∧ i = .int .i64 k ∧ r = .int .i64 q ∧ 0 ≤ q ∧ q ≤ 1048576 ∧ ∀ j, j < k → (at2 zss j).length ≤ 1048576) (fun _ i => zss.length - (intOf i).toNat)
  case atStart => exact ⟨0, 1048576 - (zss.length : Int), Nat.zero_le _, rfl, rfl, by omega, by omega, fun j hj => absurd hj (by omega)⟩
  case round =>
    obtain ⟨k, q, hk, rfl, rfl, q0, q1, hall⟩ := hrel
    have HALL := Lib.hid hall
    clear hall
    by_cases hlt : k < zss.length
    · obtain ⟨b, off, A', c', rfl, _, hc, hcl, hcm, _⟩ := HS.out.at_ hlt
      have hm : c' ≤ 9223372036854775807 := by unfold maxLen at hcm; omega
      obtain ⟨n, hn2⟩ : ∃ n, (at2 zss k).length = n := ⟨_, rfl⟩
      rw [hn2] at hc hcl
      have HN := Lib.hid hn2
      clear hn2 hcm
      have hz := szIntS_any A' n c' q w q0 q1 (by omega)
      by_cases hq : q < (n : Int)
      · rw [if_pos hq] at hz
        go_wp2_with fail
        refine hz.mono ?_
        rintro e w' ⟨rfl, rfl⟩
        clear hz
        go_wp2
        go_ret
        exact ⟨-1, rfl, .inl rfl, rfl⟩
      · rw [if_neg hq] at hz
        have hd2 : decide (q - (n : Int) < 0) = false := by simp; omega
        go_wp2_with fail
        refine hz.mono ?_
        rintro e w' ⟨rfl, rfl⟩
        clear hz
        go_wp2
        go_round
        case rel => exact ⟨k + 1, q - n, by omega, by go_num, rfl, by omega, by omega, fun j hj => by
          by_cases e : j = k
          · subst e; rw [HN.out]; omega
          · exact HALL.out j (by omega)⟩
        case measure => simp [intOf]; omega
    · have e : k = zss.length := by omega
      subst e
      go_wp2
      go_ret
      exact ⟨q, rfl, .inr ⟨q0, q1, by omega, HALL.out⟩, rfl⟩

/-- The headers of a copy under way. -/
theorem made_rowSS (w : World) (n : Nat) (hn : n ≤ 2000000) : GRow (w.alloc (.cells (madeCells #[Value.slice none 0 0] n) 29)) w.heap.size (w.heap.size + 1) 29 (.slice (some ⟨w.heap.size, 0, none⟩) n n) (List.replicate n (.slice none 0 0)) := by
  refine ⟨?_, fun g hg => by simp [Value.ownBlock] at hg; omega⟩
  rw [List.length_replicate, ← toList_madeCells_one]
  exact World.ownsRow_lit w _ _ (Nat.le_refl _) (by simp only [maxLen]; omega) (by simp [madeCells])
theorem fillV_set (vs : List Value) (n k : Nat) (hk : k < n) (hl : vs.length = k) (v u : Value) : (vs ++ List.replicate (n - k) u).set k v = (vs ++ [v]) ++ List.replicate (n - (k + 1)) u := by
  have e1 : n - k = (n - (k + 1)) + 1 := by omega
  rw [e1, List.replicate_succ, List.set_append_right _ _ (by omega), hl, Nat.sub_self, List.set_cons_zero, List.append_assoc]
  rfl

set_option maxHeartbeats 800000 in
theorem toIntSS_any (A : Option Addr) (c : Nat) (zss : List (List Int)) (w : World) (hs : SS w w.heap.size A zss) (hn : Small 1048576 zss) :
    Calls Try.prog 13 #[.slice A zss.length c] w fun e w' => ∃ v, e = .returned v ∧ RowSS w' w.heap.size w'.heap.size v zss ∧ Below w.heap.size w w' := by
  have HS := Lib.hid hs
  have HN := Lib.hid hn
  have hn1 := hn.1
  clear hs hn
  have hmk := run_make_row' (P := Try.prog) 22 29 (.slice none 0 0) 24 Try.underlying22 info_ints rfl .i64 .i64 zss.length (by omega) (by omega)
  go_enter Try.func13, Try.ntmps13
  go_wp2
  clear hmk
  have h0 := made_rowSS w zss.length (by omega)
  go_loopw [4] (fun i wr => ∃ (k : Nat) (vs : List Value), k ≤ zss.length ∧ i = .int .i64 k ∧ vs.length = k ∧ GRow wr w.heap.size (w.heap.size + 1) 29 (.slice (some ⟨w.heap.size, 0, none⟩) zss.length zss.length) (vs ++ List.replicate (zss.length - k) (.slice none 0 0)) ∧ Rows wr (w.heap.size + 1) wr.heap.size vs (zss.take k) ∧ Below w.heap.size w wr) (fun i _ => zss.length - (intOf i).toNat)
  case atStart => exact ⟨0, [], Nat.zero_le _, rfl, rfl, h0, by simp [Rows], (Below.refl _ _).alloc (Nat.le_refl _) _⟩
  case round =>
    obtain ⟨k, vs, hk, rfl, hvl, hown, hrows, hnx⟩ := hrel
    clear h0
    by_cases hlt : k < zss.length
    · obtain ⟨b, off, A', c', rfl, hbB, hc, hcl, hcm, hsl⟩ := (HS.out.below hnx (Nat.le_refl _)).at_ hlt
      have hsz := hnx.size
      have hlen := HN.out.2 k hlt
      have HT := Lib.hid (take2_succ zss k hlt)
      obtain ⟨zs, hzs⟩ : ∃ zs, at2 zss k = zs := ⟨_, rfl⟩
      rw [hzs] at hc hcl hsl hlen HT
      clear hzs
      have hto := toIntS_any A' c' zs wr (hsl.more hsz) (by omega)
      have HV := Lib.hid hvl
      have HO := Lib.hid hown
      have HR := Lib.hid hrows
      have hle := hrows.le
      clear hown hrows hvl hsl hcm
      go_wp2_with fail
      refine hto.mono ?_
      rintro e w1 ⟨v0, rfl, hr, hb⟩
      clear hto
      obtain ⟨Av, cv, hv0, _, _, _⟩ := hr.form
      obtain ⟨v, hv⟩ : ∃ v, v = Value.slice Av zs.length cv := ⟨_, rfl⟩
      rw [← hv] at hv0
      have HV0 := Lib.hid hv
      rw [hv0] at hr ⊢
      clear hv0 hv
      have hO1 := HO.out.below hb (by omega)
      have hR1 := HR.out.below hb (Nat.le_refl _)
      have hnx1 := hnx.trans (hb.mono hsz)
      have hsz1 := hb.size
      obtain ⟨g0, u0, hg0, _, _, hcc, hfz1⟩ := hO1.some_ (j := k) (by have := HV.out; simp; omega)
      cases hg0
      have hst := hO1.stored k v
      rw [fillV_set vs zss.length k hlt HV.out] at hst
      have hrow1 := hr.grown hst.2 (fun g e => by cases e; left; omega)
      have hR2 := (hR1.grown hst.2 (fun g e => by cases e; left; omega)).snoc hb.size hrow1
      rw [← HT.out] at hR2
      have HO2 := Lib.hid hst.1
      have HR2 := Lib.hid hR2
      have HX := Lib.hid (hnx1.setCell (p := ⟨w.heap.size, k, none⟩) (Nat.le_refl _) v)
      clear hO1 hR1 hst hrow1 hR2 hr HO HR
      have hv := HV0.out
      subst hv
      go_wp2
      go_roundw
      case rel => exact ⟨k + 1, vs ++ [_], by omega, by go_num, by have := HV.out; simp; omega, HO2.out, by simpa using HR2.out, HX.out⟩
      case measure => simp [intOf]; omega
    · have e : k = zss.length := by omega
      have HE := Lib.hid e
      have HV := Lib.hid hvl
      clear e hvl
      go_wp2
      go_ret
      have e := HE.out
      subst e
      rw [Nat.sub_self, List.replicate_zero, List.append_nil] at hown
      rw [List.take_of_length_le (Nat.le_refl _)] at hrows
      exact ⟨_, rfl, ⟨vs, w.heap.size + 1, by omega, hown, hrows⟩, hnx⟩

theorem eqIntS_drew (B B' : Nat) (A A' : Option Addr) (c c' n n' : Nat) (zs : List Int) (w : World) (h1 : Sl w B A zs) (h2 : Sl w B' A' zs) (e1 : n = zs.length) (e2 : n' = zs.length) (hn : zs.length ≤ 4611686018427387904) :
    Calls Try.prog 20 #[.slice A n c, .slice A' n' c'] w fun e w' => e = .returned (.bool true) ∧ Drew w w' := by
  subst e1 e2
  have H1 := Lib.hid h1
  have H2 := Lib.hid h2
  clear h1 h2
  go_enter Try.func20, Try.ntmps20
  go_wp2
  go_loopw [5] (fun i wr => ∃ k : Nat, k ≤ zs.length ∧ i = .int .i64 k ∧ Drew w wr) (fun i _ => zs.length - (intOf i).toNat)
  case atStart => exact ⟨0, Nat.zero_le _, rfl, Drew.refl w⟩
  case round =>
    obtain ⟨k, hk, rfl, hd⟩ := hrel
    by_cases hlt : k < zs.length
    · obtain ⟨b, off, rfl, _, hc⟩ := (hd.sl H1.out).at_ hlt
      obtain ⟨b', off', rfl, _, hc'⟩ := (hd.sl H2.out).at_ hlt
      obtain ⟨z, hz⟩ : ∃ z, zs.getD k 0 = z := ⟨_, rfl⟩
      rw [hz] at hc hc'
      clear hz
      go_wp2
      go_quiet (fail)
      go_wp2
      go_roundw
      case rel => exact ⟨k + 1, by omega, by go_num, hd.more _⟩
      case measure => simp [intOf]; omega
    · go_wp2
      go_ret
      exact ⟨rfl, hd⟩
/-- Two lists of lists that read the same are equal. -/
theorem eqIntSS_same (A A' : Option Addr) (c c' : Nat) (zss : List (List Int)) (w : World) (h1 : SS w w.heap.size A zss) (h2 : SS w w.heap.size A' zss) (hn : Small 1048576 zss) :
    Calls Try.prog 15 #[.slice A zss.length c, .slice A' zss.length c'] w fun e w' => e = .returned (.bool true) ∧ Below w.heap.size w w' := by
  have H1 := Lib.hid h1
  have H2 := Lib.hid h2
  have HN := Lib.hid hn
  have hn1 := hn.1
  clear h1 h2 hn
  go_enter Try.func15, Try.ntmps15
  go_wp2
  go_loopw [5] (fun i wr => ∃ k : Nat, k ≤ zss.length ∧ i = .int .i64 k ∧ Below w.heap.size w wr) (fun i _ => zss.length - (intOf i).toNat)
  case atStart => exact ⟨0, Nat.zero_le _, rfl, Below.refl _ _⟩
  case round =>
    obtain ⟨k, hk, rfl, hnx⟩ := hrel
    by_cases hlt : k < zss.length
    · obtain ⟨b, off, B1, c1, rfl, _, hc, _, _, hs1⟩ := (H1.out.below hnx (Nat.le_refl _)).at_ hlt
      obtain ⟨b', off', B2, c2, rfl, _, hc', _, _, hs2⟩ := (H2.out.below hnx (Nat.le_refl _)).at_ hlt
      have hlen := HN.out.2 k hlt
      obtain ⟨zs, hzs⟩ : ∃ zs, at2 zss k = zs := ⟨_, rfl⟩
      rw [hzs] at hc hc' hs1 hs2 hlen
      clear hzs
      have hsz := hnx.size
      have HS1 := Lib.hid hs1
      have HS2 := Lib.hid hs2
      clear hs1 hs2
      go_wp2
      go_quiet (first | (go_at_call 20; refine Calls.quiet_of (eqIntS_drew w.heap.size w.heap.size B1 B2 c1 c2 _ _ zs _ (HS1.out.keep (fun _ _ => rfl)) (HS2.out.keep (fun _ _ => rfl)) rfl rfl (by omega))))
      go_wp2
      go_roundw
      case rel => exact ⟨k + 1, by omega, by go_num, below_drewN hnx _⟩
      case measure => simp [intOf]; omega
    · go_wp2
      go_ret
      exact ⟨rfl, hnx⟩

/-- Marking the lists: every row keeps its length; nothing else is written. -/
def Between (lo hi : Nat) (w w' : World) : Prop := w.os = w'.os ∧ w.tape = w'.tape ∧ w.output = w'.output ∧ w.heap.size ≤ w'.heap.size ∧ ∀ i, i < w.heap.size → (i < lo ∨ hi ≤ i) → w'.heap[i]? = w.heap[i]?
end Go.Proofs.Ytfkccdmjlopleaa
