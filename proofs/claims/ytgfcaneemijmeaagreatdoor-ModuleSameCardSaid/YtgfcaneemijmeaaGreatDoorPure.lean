/- The two ways to compare reports give the same answer: in plain lists and numbers. -/
import Derived.Test.YtgfcaneemijmeaaGreatDoorSame
namespace Go.Proofs.YtgfcaneemijmeaaGreatDoor.PModuleSame
open Go.RowKit Go.Proofs.YtgfcaneemijmeaaGreatDoorW.PrintWords Go.Proofs.YtgfcaneemijmeaaGreatDoorW.PrintLast

/-- Both loops over the errors, from a place on, with rounds enough. -/
theorem both_loops (x y : List S32) (s t : ByteArray) (m n : Int) (p q : List Int) (N : Nat) (hx : x.length = N) (hy : y.length = N) (hN : N ≤ 20) (d : Nat) : ∀ i : Int, 0 ≤ i → i + d = N →
    ∃ b, (∀ k, d < k → api_Diag.l0 k x y (N : Int) i = some b ∧ armillaryref17_Same.l0 k i s m x p t n y q = some b) ∧ (x = y → b = true) := by
  induction d with
  | zero =>
    intro i h0 hi
    refine ⟨true, fun k hk => ?_, fun _ => rfl⟩
    obtain ⟨k, rfl⟩ : ∃ m, k = m + 1 := ⟨k - 1, by omega⟩
    constructor
    · simp only [api_Diag.l0]
      rw [if_neg (by omega)]
    · simp only [armillaryref17_Same.l0]
      rw [if_neg (by omega)]
  | succ d ih =>
    intro i h0 hi
    have hw : wrap64 (i + 1) = i + 1 := by unfold wrap64; omega
    by_cases hd : (!(((rd_T32 x i).f0) == ((rd_T32 y i).f0)) || (!(((rd_T32 x i).f1) == ((rd_T32 y i).f1)) || (!(((rd_T32 x i).f2) == ((rd_T32 y i).f2))))) = true
    · refine ⟨false, fun k hk => ?_, fun e => ?_⟩
      · obtain ⟨k, rfl⟩ : ∃ m, k = m + 1 := ⟨k - 1, by omega⟩
        constructor
        · simp only [api_Diag.l0]
          rw [if_pos (by omega), if_pos h0, if_pos (by omega), if_pos (by omega), if_pos hd]
        · simp only [armillaryref17_Same.l0]
          rw [if_pos (by omega), if_pos h0, if_pos (by omega), if_pos hd]
      · subst e
        simp at hd
    · obtain ⟨b, hb, he⟩ := ih (i + 1) (by omega) (by omega)
      refine ⟨b, fun k hk => ?_, he⟩
      obtain ⟨k, rfl⟩ : ∃ m, k = m + 1 := ⟨k - 1, by omega⟩
      obtain ⟨h1, h2⟩ := hb k (by omega)
      constructor
      · simp only [api_Diag.l0]
        rw [if_pos (by omega), if_pos h0, if_pos (by omega), if_pos (by omega), if_neg hd, hw]
        exact h1
      · simp only [armillaryref17_Same.l0]
        rw [if_pos (by omega), if_pos h0, if_pos (by omega), if_neg hd, hw]
        exact h2

theorem both_same (s t : ByteArray) (m n : Int) (x y : List S32) (p q : List Int) (hx : x.length ≤ 20) (_hy : y.length ≤ 20) :
    ∃ b, module_Same.f 100 s m x p t n y q = some b ∧ armillaryref17_Same.f 100 s m x p t n y q = some b := by
  have hj : ∀ a b c d e f g h, armillaryref17_Same.j0 100 true a b c d e f g h = some false := by
    intro a b c d e f g h
    rfl
  by_cases hs : s.toList = t.toList
  · by_cases hm : m = n
    · by_cases hl : (x.length : Int) = (y.length : Int)
      · obtain ⟨b, hb, _⟩ := both_loops x y s t m n p q x.length rfl (by omega) hx x.length 0 (by omega) (by omega)
        have h1 := (hb 100 (by omega)).1
        have h2 := (hb 99 (by omega)).2
        have e1 : api_Diag.f 100 x y = some b := by
          unfold api_Diag.f
          rw [if_pos hl]
          exact h1
        unfold module_Same.f armillaryref17_Same.f
        rw [if_pos hs, if_pos hs, if_pos hm, if_pos hm, if_pos hl, e1]
        simp only [Option.bind_some, armillaryref00_EqBytes.f, bytes_Equal.f]
        have hjf : ∀ a b c d e f g h, armillaryref17_Same.j0 100 false a b c d e f g h = armillaryref17_Same.l0 99 0 a b c d e f g h := by
          intro a b c d e f g h
          rfl
        cases he : ((strOfNums p).toList == (strOfNums q).toList) with
        | true =>
          refine ⟨b, ?_, ?_⟩
          · cases b <;> rfl
          · show armillaryref17_Same.j0 100 false s m x p t n y q = some b
            rw [hjf]
            exact h2
        | false =>
          refine ⟨false, ?_, ?_⟩
          · cases b <;> rfl
          · exact hj _ _ _ _ _ _ _ _
      · refine ⟨false, ?_, ?_⟩
        · unfold module_Same.f api_Diag.f
          rw [if_pos hs, if_pos hm, if_neg hl]
          rfl
        · unfold armillaryref17_Same.f
          rw [if_pos hs, if_pos hm, if_neg hl]
          exact hj _ _ _ _ _ _ _ _
    · refine ⟨false, ?_, ?_⟩
      · unfold module_Same.f
        rw [if_pos hs, if_neg hm]
      · unfold armillaryref17_Same.f
        rw [if_pos hs, if_neg hm]
        exact hj _ _ _ _ _ _ _ _
  · refine ⟨false, ?_, ?_⟩
    · unfold module_Same.f
      rw [if_neg hs]
    · unfold armillaryref17_Same.f
      rw [if_neg hs]
      exact hj _ _ _ _ _ _ _ _

theorem self_same (s : ByteArray) (m : Int) (x : List S32) (p : List Int) (hx : x.length ≤ 20) : module_Same.f 100 s m x p s m x p = some true := by
  obtain ⟨b, hb, he⟩ := both_loops x x s s m m p p x.length rfl rfl hx x.length 0 (by omega) (by omega)
  have h1 := (hb 100 (by omega)).1
  have hbt := he rfl
  subst hbt
  have e1 : api_Diag.f 100 x x = some true := by
    unfold api_Diag.f
    rw [if_pos rfl]
    exact h1
  unfold module_Same.f
  rw [if_pos rfl, if_pos rfl, e1]
  simp [bytes_Equal.f]

theorem mn_bounds (n : Nat) (c : Int) (hc : 0 ≤ c) : 0 ≤ mn (n : Int) c ∧ mn (n : Int) c ≤ (n : Int) ∧ mn (n : Int) c ≤ c := by
  unfold mn
  split <;> omega

theorem same_pure (s t : ByteArray) (m n : Int) (x y : List S32) (p q : List Int) : armillarylaw17_ModuleSame.f 100 s m x p t n y q = some true := by
  obtain ⟨a1, a2, a3⟩ := mn_bounds x.length 20 (by omega)
  obtain ⟨b1, b2, b3⟩ := mn_bounds y.length 20 (by omega)
  obtain ⟨c1, c2, c3⟩ := mn_bounds p.length 300 (by omega)
  obtain ⟨d1, d2, d3⟩ := mn_bounds q.length 300 (by omega)
  have hx : (x.take (mn (x.length : Int) 20).toNat).length ≤ 20 := by rw [List.length_take]; omega
  have hy : (y.take (mn (y.length : Int) 20).toNat).length ≤ 20 := by rw [List.length_take]; omega
  have hp : armillaryref00_CopyBytes.f (p.take (mn (p.length : Int) 300).toNat) = some (p.take (mn (p.length : Int) 300).toNat) := by
    unfold armillaryref00_CopyBytes.f
    rw [if_pos (by rw [List.length_take, List.length_nil]; omega), List.nil_append]
  have hq : armillaryref00_CopyBytes.f (q.take (mn (q.length : Int) 300).toNat) = some (q.take (mn (q.length : Int) 300).toNat) := by
    unfold armillaryref00_CopyBytes.f
    rw [if_pos (by rw [List.length_take, List.length_nil]; omega), List.nil_append]
  obtain ⟨b, h1, h2⟩ := both_same s t m n _ _ (p.take (mn (p.length : Int) 300).toNat) (q.take (mn (q.length : Int) 300).toNat) hx hy
  have h3 := self_same s m _ (p.take (mn (p.length : Int) 300).toNat) hx
  unfold armillarylaw17_ModuleSame.f
  rw [if_pos a1, if_pos a2]
  simp only [Option.bind_some]
  rw [if_pos b1, if_pos b2, if_pos c1, if_pos c2, hp]
  simp only [Option.bind_some]
  rw [if_pos d1, if_pos d2, hq]
  simp only [Option.bind_some]
  rw [h1, h2]
  simp only [Option.bind_some]
  rw [if_pos (by simp), h3]
  rfl
end Go.Proofs.YtgfcaneemijmeaaGreatDoor.PModuleSame
