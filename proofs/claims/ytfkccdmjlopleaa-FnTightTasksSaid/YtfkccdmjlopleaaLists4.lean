/- Contract: marking a list of lists. -/
import Derived.Test.YtfkccdmjlopleaaLists3
import Derived.Test.YtfkccdmjlopleaaSpan
namespace Go.Proofs.Ytfkccdmjlopleaa
open Go.RowKit

theorem Row.rebound {w : World} {l h l' h' : Nat} {v : Value} {zs : List Int} (hr : Row w l h v zs) (hb : ∀ g, v.ownBlock = some g → l' ≤ g ∧ g < h') : Row w l' h' v zs := by
  obtain ⟨⟨a, b⟩, c⟩ := hr
  refine ⟨⟨a, ?_⟩, fun g hg => (hb g hg).2⟩
  rcases b with b | ⟨g, cap, cur, hv, hlo, r⟩
  · exact .inl b
  · exact .inr ⟨g, cap, cur, hv, (hb g (by rw [hv]; rfl)).1, r⟩
set_option maxHeartbeats 400000 in
theorem markIntSS_any (lo hi : Nat) (A : Option Addr) (c : Nat) (zss : List (List Int)) (w : World) (h : RowSS w lo hi (.slice A zss.length c) zss) (hn : Small 1048576 zss) :
    Calls Try.prog 21 #[.slice A zss.length c, .int .i64 1] w fun e w' => ∃ r : Int, e = .returned (.int .i64 r) ∧ 0 ≤ r ∧ Span lo hi w w' := by
  have HN := Lib.hid hn
  have hn1 := hn.1
  obtain ⟨vs, m, hm, hG, hR⟩ := h
  have hG0 := Lib.hid hG
  have hR0 := Lib.hid hR
  have hvl := hR.len
  have hle := hR.le
  clear hn hG hR
  have HVL := Lib.hid hvl
  clear hvl
  go_enter Try.func21, Try.ntmps21
  go_wp2
  go_loopw [1, 5] (fun q i wr => ∃ (k : Nat) (r : Int) (yss : List (List Int)), k ≤ zss.length ∧ i = .int .i64 k ∧ q = .int .i64 r ∧ 0 ≤ r ∧ r ≤ 1 + 1048576 * (k : Int) ∧ GRow wr lo m 29 (.slice A zss.length c) vs ∧ Rows wr m hi vs yss ∧ (∀ j, j < zss.length → (at2 yss j).length = (at2 zss j).length) ∧ yss.length = zss.length ∧ Span lo hi w wr) (fun _ i _ => zss.length - (intOf i).toNat)
  case atStart => exact ⟨0, 1, zss, Nat.zero_le _, rfl, rfl, by omega, by omega, hG0.out, hR0.out, fun _ _ => rfl, rfl, Span.refl _ _ _⟩
  case round =>
    obtain ⟨k, r, yss, hk, rfl, rfl, r0, r1, hG, hR, hyl, hyn, hsp⟩ := hrel
    by_cases hlt : k < zss.length
    · have hkv : k < vs.length := by have := HVL.out; omega
      obtain ⟨g, rfl, hg1, hg2, hc, _⟩ := hG.cell_ hkv
      obtain ⟨l, h, hl1, hh1, hrow⟩ := hR.at_ hkv
      have hyk := hyl k hlt
      have hsm := HN.out.2 k hlt
      obtain ⟨v, hv⟩ : ∃ v, vs[k] = v := ⟨_, rfl⟩
      rw [hv] at hc hrow
      have HY := Lib.hid hyl
      have HYN := Lib.hid hyn
      have HR := Lib.hid hR
      have HG := Lib.hid hG
      have HVK := Lib.hid hv
      clear hyl hyn hG hR hv
      obtain ⟨A', c', rfl, _, hcm, _⟩ := hrow.form
      have hmk := markIntS_any l h A' c' _ (at2 yss k) r wr hrow (by omega) r0 (by omega)
      rw [hyk] at hc hmk
      obtain ⟨n, hn⟩ : ∃ n, (at2 zss k).length = n := ⟨_, rfl⟩
      rw [hn] at hc hmk hyk hsm
      have HYK := Lib.hid hyk
      have HNK := Lib.hid hn
      clear hn hyk hcm
      have HROW := Lib.hid hrow
      clear hrow
      go_wp2_with fail
      refine hmk.mono ?_
      rintro e w1 ⟨rfl, hrm, hgr⟩
      clear hmk
      have hbl := HROW.out.block_lt
      rw [show (at2 yss k).length = n from HYK.out] at hbl
      have hG1 := HG.out.grown hgr (fun b e => .inr (by have := hbl b e; omega))
      have hvk : vs[k]'hkv = .slice A' n c' := by rw [HVK.out, HYK.out]
      have hR1 := HR.out.upd (w' := w1) (zs' := marks r n) hkv (by rw [hvk]; exact hgr) (fun l' h' hr => by
        rw [hvk] at hr ⊢
        exact hrm.rebound hr.block_lt)
      have hS1 := hsp.trans (Span.of_grown hgr (fun b e => by have := hbl b e; omega))
      have HG1 := Lib.hid hG1
      have HR1 := Lib.hid hR1
      clear hG1 hR1 hrm hgr hbl
      go_wp2
      go_roundw
      case rel => exact ⟨k + 1, r + n, yss.set k (marks r n), by omega, by go_num, rfl, by omega, by omega, HG1.out, HR1.out, fun j hj => by
          unfold at2
          by_cases e : k = j
          · subst e
            have := HYN.out
            rw [show (yss.set k (marks r n)).getD k [] = marks r n by simp [show k < yss.length by omega], marks_length]
            exact HNK.out.symm
          · rw [show (yss.set k (marks r n)).getD j [] = yss.getD j [] by simp [e]]
            exact HY.out j hj, by rw [List.length_set]; exact HYN.out, hS1⟩
      case measure => simp [intOf]; omega
    · clear hyl hG hR
      go_wp2
      go_ret
      exact ⟨r, rfl, r0, hsp⟩
end Go.Proofs.Ytfkccdmjlopleaa
