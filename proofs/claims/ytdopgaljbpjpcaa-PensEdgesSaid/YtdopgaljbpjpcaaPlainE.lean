/- Edges of moves and moments that follow one another, in plain lists. -/
import Derived.Test.YtdopgaljbpjpcaaKeeps
import Derived.Test.YtdopgaljbpjpcaaTrips
namespace Go.Proofs.Ytdopgaljbpjpcaa

/-- An edge leads to an offset with a change. -/
def leadsB (q d : Int) (m : Int × Int × Int) : Bool := m.1 == q && (decide (m.2.1 ≤ d) && decide (d ≤ m.2.2))
theorem moves_any {b r o q d : Int} (hb : 0 ≤ b) (hq0 : 0 ≤ q) (hq : q ≤ 2 * b) : (movesL b r o).any (leadsB q d) = true ↔ moveK b r o (q - b) = true ∧ mLo b r o (q - b) ≤ d ∧ d ≤ mHi b r o (q - b) := by
  unfold movesL movesTo
  rw [List.any_eq_true]
  constructor
  · rintro ⟨m, hm, hl⟩
    obtain ⟨i, hi, rfl⟩ := List.mem_map.1 hm
    obtain ⟨_, hk⟩ := List.mem_filter.1 hi
    simp only [leadsB, Bool.and_eq_true, beq_iff_eq, decide_eq_true_eq] at hl
    obtain ⟨h1, h2, h3⟩ := hl
    rw [← h1]
    exact ⟨hk, h2, h3⟩
  · rintro ⟨h1, h2, h3⟩
    obtain ⟨i, rfl⟩ : ∃ i : Nat, q = (i : Int) := ⟨q.toNat, by omega⟩
    refine ⟨_, List.mem_map.2 ⟨i, List.mem_filter.2 ⟨List.mem_range.2 (by omega), h1⟩, rfl⟩, ?_⟩
    simp only [leadsB, Bool.and_eq_true, beq_iff_eq, decide_eq_true_eq]
    exact ⟨trivial, h2, h3⟩
theorem edge_law {b r sa ra sb rb : Int} (hb : 0 ≤ b) (hr : 0 ≤ r) (h1 : ra - sa ≤ b ∧ sa - ra ≤ b) (h2 : rb - sb ≤ b ∧ sb - rb ≤ b) :
    (moveK b r (ra - sa) (rb - sb) = true ∧ mLo b r (ra - sa) (rb - sb) ≤ sb - sa ∧ sb - sa ≤ mHi b r (ra - sa) (rb - sb)) ↔ (apartN rb ra ≤ r ∧ sb = lazyN b sa rb) := by
  unfold moveK mLo mHi apartN lazyN
  simp only [Bool.and_eq_true, Bool.or_eq_true, Bool.not_eq_true', Bool.and_eq_false_iff, decide_eq_true_eq, beq_eq_false_iff_ne]
  split <;> split <;> omega
theorem edges_may {b l h r sa ra sb rb : Int} (h1 : keepsF b l h r [(sa, ra)] = 0) (h2 : keepsF b l h r [(sb, rb)] = 0) :
    movesF b l h r (ra - sa) = (movesL b r (ra - sa), 0) ∧ ((movesL b r (ra - sa)).any (leadsB (rb - sb + b) (sb - sa)) = (keepsF b l h r [(sa, ra), (sb, rb)] == 0)) := by
  obtain ⟨hp, l1, l2, m1⟩ := keepsF_iff.1 h1
  obtain ⟨_, l3, l4, m2⟩ := keepsF_iff.1 h2
  have hb0 := (penOk_iff.1 hp).1
  have hr0 := (penOk_iff.1 hp).2.2.2.2.2.2.1
  have r1 : ra - sa ≤ b ∧ sa - ra ≤ b := by
    simp [momB, chainB, rightB] at m1; omega
  have r2 : rb - sb ≤ b ∧ sb - rb ≤ b := by
    simp [momB, chainB, rightB] at m2; omega
  constructor
  · unfold movesF
    rw [if_pos hp, if_pos (by unfold withinB; simp; omega)]
  · rw [Bool.eq_iff_iff, moves_any hb0 (by omega) (by omega), beq_iff_eq, keepsF_iff]
    have e : rb - sb + b - b = rb - sb := by omega
    rw [e, edge_law hb0 hr0 r1 r2]
    have lok : listOk ([(sa, ra), (sb, rb)].map (·.1)) = true ∧ listOk ([(sa, ra), (sb, rb)].map (·.2)) = true := by
      have a1 := (listOk_iff.1 l1).2; have a2 := (listOk_iff.1 l2).2
      have a3 := (listOk_iff.1 l3).2; have a4 := (listOk_iff.1 l4).2
      constructor
      · refine listOk_iff.2 ⟨by simp, fun x hx => ?_⟩
        simp at hx a1 a3
        rcases hx with rfl | rfl <;> assumption
      · refine listOk_iff.2 ⟨by simp, fun x hx => ?_⟩
        simp at hx a2 a4
        rcases hx with rfl | rfl <;> assumption
    have hm : momB b r [(sa, ra), (sb, rb)] = true ↔ (apartN rb ra ≤ r ∧ sb = lazyN b sa rb) := by
      simp only [momB, chainB] at m1 ⊢
      simp at m1
      simp [m1]
    rw [hm]
    exact ⟨fun k => ⟨hp, lok.1, lok.2, k⟩, fun k => k.2.2.2⟩
end Go.Proofs.Ytdopgaljbpjpcaa
