/- Contracts: signed numbers; pruned matrices. -/
import Derived.Test.YtdebnbgjnmoleaaFnsF1
namespace Go.Proofs.Ytdebnbgjnmoleaa
open Go.RowKit

/-- The signed number of a ring number. -/
def sgn (x : Int) : Int := if x < 2048 then x else x - 4096
theorem xor_all : ((List.range 4096).all fun n => bits .xor .i64 (n : Int) 2048 == (if n < 2048 then (n : Int) + 2048 else (n : Int) - 2048)) = true := by kernel_rfl
theorem xor2048 {x : Int} (h1 : 0 ≤ x) (h2 : x ≤ 4095) : bits .xor .i64 x 2048 = sgn x + 2048 := by
  obtain ⟨n, rfl⟩ := Int.eq_ofNat_of_zero_le h1
  have h := List.all_eq_true.1 xor_all n (List.mem_range.2 (by omega))
  rw [beq_iff_eq] at h
  rw [h]
  unfold sgn
  by_cases e : n < 2048
  · rw [if_pos e, if_pos (by omega)]
  · rw [if_neg e, if_neg (by omega)]; omega
theorem sgn_bound {x : Int} (h1 : 0 ≤ x) (h2 : x ≤ 4095) : -2048 ≤ sgn x ∧ sgn x ≤ 2047 := by unfold sgn; split <;> omega
theorem implSgn (x : Int) (w : World) (h1 : 0 ≤ x) (h2 : x ≤ 4095) : Calls Try.prog 67 #[.int .i64 x] w fun e w' => e = .returned (.int .i64 (sgn x)) ∧ w = w' := by
  have hx := xor2048 h1 h2
  have hb := sgn_bound h1 h2
  obtain ⟨s, hs⟩ : ∃ s, sgn x = s := ⟨_, rfl⟩
  rw [hs] at hx hb ⊢
  clear hs
  go_enter Try.func67, Try.ntmps67
  go_wp2_with fail
  refine (ringValid_yes _ _ h1 h2).mono ?_
  rintro e w' ⟨rfl, rfl⟩
  go_wp2
  go_ret
  exact ⟨by first | rfl | (simp; omega) | (congr 2; omega), rfl⟩
theorem specSgn (x : Int) (w : World) (h1 : 0 ≤ x) (h2 : x ≤ 4095) : Calls Try.prog 65 #[.int .i64 x] w fun e w' => e = .returned (.int .i64 (sgn x)) ∧ w = w' := by
  by_cases h : x < 2048
  · rw [show sgn x = x from if_pos h]
    go_enter Try.func65, Try.ntmps65
    go_wp2_with fail
    refine (specRingValid_yes _ _ h1 h2).mono ?_
    rintro e w' ⟨rfl, rfl⟩
    go_wp2
    go_ret
    exact ⟨rfl, rfl⟩
  · rw [show sgn x = x - 4096 from if_neg h]
    go_enter Try.func65, Try.ntmps65
    go_wp2_with fail
    refine (specRingValid_yes _ _ h1 h2).mono ?_
    rintro e w' ⟨rfl, rfl⟩
    go_wp2
    go_ret
    exact ⟨rfl, rfl⟩

def pruneF (l x : Int) : Int := if sgn x < l ∧ -sgn x < l then 0 else x
def mapTo (f : Int → Int) (zs : List Int) (k : Nat) : List Int := (zs.take k).map f ++ zs.drop k
theorem mapTo_zero (f : Int → Int) (zs : List Int) : mapTo f zs 0 = zs := by simp [mapTo]
theorem mapTo_full (f : Int → Int) (zs : List Int) : mapTo f zs zs.length = zs.map f := by simp [mapTo]
theorem mapTo_length (f : Int → Int) (zs : List Int) (k : Nat) (hk : k ≤ zs.length) : (mapTo f zs k).length = zs.length := by simp [mapTo]; omega
theorem mapTo_at (f : Int → Int) (zs : List Int) (k : Nat) (hk : k < zs.length) : (mapTo f zs k).getD k 0 = zs.getD k 0 := by
  unfold mapTo
  simp [List.getElem?_append, show min k zs.length = k by omega]
theorem mapTo_succ (f : Int → Int) (zs : List Int) (k : Nat) (hk : k < zs.length) : mapTo f zs (k + 1) = (mapTo f zs k).set k (f (zs.getD k 0)) := by
  unfold mapTo
  have e3 : zs.take (k + 1) = zs.take k ++ [zs.getD k 0] := by rw [List.take_add_one, List.getElem?_eq_getElem hk]; simp [hk]
  have e4 : zs.drop k = zs.getD k 0 :: zs.drop (k + 1) := by rw [List.drop_eq_getElem_cons hk]; simp [hk]
  have e0 : ((zs.take k).map f).length = k := by simp; omega
  rw [e3, e4, List.map_append, List.set_append_right _ _ (by omega), e0, Nat.sub_self, List.set_cons_zero, List.append_assoc]
  rfl
theorem mapTo_same (f : Int → Int) (zs : List Int) (k : Nat) (hk : k < zs.length) (h : f (zs.getD k 0) = zs.getD k 0) : mapTo f zs (k + 1) = mapTo f zs k := by
  unfold mapTo
  have e3 : zs.take (k + 1) = zs.take k ++ [zs.getD k 0] := by rw [List.take_add_one, List.getElem?_eq_getElem hk]; simp [hk]
  have e4 : zs.drop k = zs.getD k 0 :: zs.drop (k + 1) := by rw [List.drop_eq_getElem_cons hk]; simp [hk]
  rw [e3, e4, List.map_append, List.append_assoc]
  simp only [List.map_cons, List.map_nil, List.cons_append, List.nil_append, h]
def OkP (r c : Int) (zs : List Int) (l : Int) : Prop := OkM r c zs ∧ 0 ≤ l ∧ l ≤ 4096
end Go.Proofs.Ytdebnbgjnmoleaa
