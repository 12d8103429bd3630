/- The program's PlacesOf and the reference's answer alike, for all arguments. No condition. -/
import Derived.Test.YtnhkneicepmiiaaPFnExactPlacesOfx2
import Derived.Test.YtnhkneicepmiiaaBase
namespace Go.Proofs.Ytnhkneicepmiiaa.Pure
open Go.RowKit Go.Proofs.Ytnhkneicepmiiaa.PFnExactPlacesOf Go.Proofs.YtnhkneicepmiiaaW.PrintWords Go.Proofs.YtnhkneicepmiiaaW.PrintLast Go.Proofs.YtnhkneicepmiiaaW.PrintMore Go.Proofs.Ytnhkneicepmiiaa.Base
set_option linter.unusedVariables false
set_option linter.unusedSimpArgs false
theorem in_f (a b c : Int) : impl_in.f a b c = some (decide (b ≤ a ∧ a ≤ c)) := by
  unfold impl_in.f
  by_cases h : b ≤ a <;> simp [h]
theorem l01In_f (a b c : Int) : spec_l01In.f a b c = some (decide (b ≤ a ∧ a ≤ c)) := by
  unfold spec_l01In.f
  by_cases h : b ≤ a <;> simp [h]
/-- How many loaves stand on a length. -/
def rowsV (l a g : Int) : Int := if (1 ≤ l ∧ l ≤ 1000) ∧ (1 ≤ a ∧ a ≤ 500) ∧ (0 ≤ g ∧ g ≤ 100) then (l + g) / (a + g) else -1
theorem rowsV_le (l a g : Int) : -1 ≤ rowsV l a g ∧ rowsV l a g ≤ 1100 := by
  unfold rowsV
  split
  · rename_i h
    refine ⟨?_, ?_⟩
    · have : 0 ≤ (l + g) / (a + g) := Int.ediv_nonneg (by omega) (by omega)
      omega
    · have : (l + g) / (a + g) ≤ l + g := Int.ediv_le_self _ (by omega)
      omega
  · omega
theorem rowsS (l a g : Int) : spec_RowsFor.f l a g = some (rowsV l a g) := by
  unfold spec_RowsFor.f rowsV
  simp only [l01In_f, Option.bind_some, decide_eq_true_eq]
  by_cases h1 : 1 ≤ l ∧ l ≤ 1000
  · by_cases h2 : 1 ≤ a ∧ a ≤ 500
    · by_cases h3 : 0 ≤ g ∧ g ≤ 100
      · rw [if_pos h1, if_pos h2, if_pos h3, if_pos (show (1 ≤ l ∧ l ≤ 1000) ∧ (1 ≤ a ∧ a ≤ 500) ∧ (0 ≤ g ∧ g ≤ 100) from ⟨h1, h2, h3⟩), w64 (x := l + g) (by omega) (by omega), w64 (x := a + g) (by omega) (by omega), if_neg (by omega), tdiv_pos (by omega)]
        have h4 : 0 ≤ (l + g) / (a + g) := Int.ediv_nonneg (by omega) (by omega)
        have h5 : (l + g) / (a + g) ≤ l + g := Int.ediv_le_self _ (by omega)
        rw [w64 (by omega) (by omega)]
      · rw [if_pos h1, if_pos h2, if_neg h3, if_neg (show ¬ ((1 ≤ l ∧ l ≤ 1000) ∧ (1 ≤ a ∧ a ≤ 500) ∧ (0 ≤ g ∧ g ≤ 100)) from fun h => h3 h.2.2)]
    · rw [if_pos h1, if_neg h2, if_neg (show ¬ ((1 ≤ l ∧ l ≤ 1000) ∧ (1 ≤ a ∧ a ≤ 500) ∧ (0 ≤ g ∧ g ≤ 100)) from fun h => h2 h.2.1)]
  · rw [if_neg h1, if_neg (show ¬ ((1 ≤ l ∧ l ≤ 1000) ∧ (1 ≤ a ∧ a ≤ 500) ∧ (0 ≤ g ∧ g ≤ 100)) from fun h => h1 h.1)]
theorem rowsI (l a g : Int) : impl_RowsFor.f l a g = some (rowsV l a g) := by
  unfold impl_RowsFor.f rowsV
  simp only [in_f, Option.bind_some, decide_eq_true_eq]
  by_cases h1 : 1 ≤ l ∧ l ≤ 1000
  · by_cases h2 : 1 ≤ a ∧ a ≤ 500
    · by_cases h3 : 0 ≤ g ∧ g ≤ 100
      · rw [if_pos h1, if_pos h2, if_pos h3, if_pos (show (1 ≤ l ∧ l ≤ 1000) ∧ (1 ≤ a ∧ a ≤ 500) ∧ (0 ≤ g ∧ g ≤ 100) from ⟨h1, h2, h3⟩), w64 (x := l + g) (by omega) (by omega), w64 (x := a + g) (by omega) (by omega), if_neg (by omega), tdiv_pos (by omega)]
        have h4 : 0 ≤ (l + g) / (a + g) := Int.ediv_nonneg (by omega) (by omega)
        have h5 : (l + g) / (a + g) ≤ l + g := Int.ediv_le_self _ (by omega)
        rw [w64 (by omega) (by omega)]
      · rw [if_pos h1, if_pos h2, if_neg h3, if_neg (show ¬ ((1 ≤ l ∧ l ≤ 1000) ∧ (1 ≤ a ∧ a ≤ 500) ∧ (0 ≤ g ∧ g ≤ 100)) from fun h => h3 h.2.2)]
    · rw [if_pos h1, if_neg h2, if_neg (show ¬ ((1 ≤ l ∧ l ≤ 1000) ∧ (1 ≤ a ∧ a ≤ 500) ∧ (0 ≤ g ∧ g ≤ 100)) from fun h => h2 h.2.1)]
  · rw [if_neg h1, if_neg (show ¬ ((1 ≤ l ∧ l ≤ 1000) ∧ (1 ≤ a ∧ a ≤ 500) ∧ (0 ≤ g ∧ g ≤ 100)) from fun h => h1 h.1)]
/-- Two lists are told alike, element by element. -/
theorem eqIntS_f (a b : List Int) (hb : a.length ≤ 1000000000) : Ev (fun k => laws_eqIntS.f k a b) (decide (a = b)) := by
  unfold laws_eqIntS.f
  by_cases c : a.length = b.length
  · simp only [if_pos (show (a.length : Int) = (b.length : Int) by omega)]
    have h := ev_all (fun k i => laws_eqIntS.l0 k a b i) a.length (fun i => decide (rd a (i : Int) = rd b (i : Int))) false true (fun k i hi => by
      simp only [laws_eqIntS.l0]
      rw [if_pos (by omega), if_pos (by omega), if_pos (by omega), w64 (by omega) (by omega)]
      by_cases e : rd a (i : Int) = rd b (i : Int)
      · rw [if_pos e, if_pos (by simpa using e)]
      · rw [if_neg e, if_neg (by simpa using e)]) (fun k => by simp only [laws_eqIntS.l0]; rw [if_neg (by omega)])
    have e : (if (List.range a.length).all (fun i => decide (rd a (i : Int) = rd b (i : Int))) = true then true else false) = decide (a = b) := by
      by_cases e : a = b
      · subst e
        rw [if_pos (by simp)]
        simp
      · rw [if_neg]
        · simp [e]
        · intro hall
          refine e (List.ext_getElem c fun i h1 h2 => ?_)
          have := (List.all_eq_true.1 hall) i (List.mem_range.2 h1)
          rw [decide_eq_true_eq, rd_get _ _ h1, rd_get _ _ h2] at this
          exact this
    rw [e] at h
    exact h
  · simp only [if_neg (show ¬ (a.length : Int) = (b.length : Int) by omega)]
    refine ev_const ?_
    have : a ≠ b := fun e => c (by rw [e])
    simp [this]
/-- What is marked is held so. -/
theorem mark_held (a : List Int) (hb : a.length ≤ 1000000000) : ∃ m b, Ev (fun k => laws_markIntS.f k a 1) (m, b) ∧ Ev (fun k => laws_heldIntS.f k b 1) m ∧ 0 ≤ m := by
  have h1 := ev_up (fun k (s : List Int × Int) i => laws_markIntS.l0 k s.1 s.2 i) a.length (fun i s => s.1.length = a.length ∧ s.2 = 1 + (i : Int) ∧ ∀ j, j < i → s.1[j]? = some (1 + (j : Int)))
    (fun r => r.1 = 1 + (a.length : Int) ∧ r.2.length = a.length ∧ ∀ j, j < a.length → r.2[j]? = some (1 + (j : Int))) (fun i s hi hp => by
      obtain ⟨x, y⟩ := s
      obtain ⟨p1, p2, p3⟩ := hp
      simp only at p1 p2 p3
      subst p2
      refine .inl ⟨(x.set i (1 + (i : Int)), 1 + ((i + 1 : Nat) : Int)), ⟨by simp [p1], rfl, fun j hj => ?_⟩, fun r hr => ev_next (fun k => ?_) r hr⟩
      · by_cases c : j = i
        · subst c
          simp only
          rw [List.getElem?_set_self (by omega)]
        · simp only
          rw [List.getElem?_set_ne (Ne.symm c)]
          exact p3 j (by omega)
      · simp only [laws_markIntS.l0]
        rw [if_pos (by omega), if_pos (by omega), w64 (by omega) (by omega), w64 (by omega) (by omega), Int.toNat_natCast]
        congr 1 <;> omega) (fun s hp => by
      obtain ⟨x, y⟩ := s
      obtain ⟨p1, p2, p3⟩ := hp
      simp only at p1 p2 p3
      refine ⟨(y, x), ⟨p2, p1, p3⟩, ev_now fun k => ?_⟩
      simp only [laws_markIntS.l0]
      rw [if_neg (by omega)]) 0 (a, 1) (Nat.zero_le _) ⟨rfl, rfl, fun j hj => by omega⟩
  obtain ⟨⟨m, b⟩, ⟨q1, q2, q3⟩, h1⟩ := h1
  simp only at q1 q2 q3
  refine ⟨m, b, h1, ?_, by omega⟩
  have h2 := ev_to (fun k (s : Int) i => laws_heldIntS.l0 k b s i) b.length (fun i s => s = 1 + (i : Int)) m (fun i s hi hp => by
      subst hp
      refine .inl ⟨1 + ((i + 1 : Nat) : Int), rfl, fun r hr => ev_next (fun k => ?_) r hr⟩
      simp only [laws_heldIntS.l0]
      have e : rd b (i : Int) = 1 + (i : Int) := by
        rw [rd_eq, List.getD_eq_getElem?_getD, q3 i (by omega)]
        rfl
      rw [if_pos (by omega), if_pos (by omega), if_pos e, w64 (by omega) (by omega), w64 (by omega) (by omega)]
      congr 1 <;> omega) (fun s hp => by
      refine ev_now fun k => ?_
      simp only [laws_heldIntS.l0]
      rw [if_neg (by omega)]
      congr 1 <;> omega) 0 1 (Nat.zero_le _) rfl
  exact h2
def placesV (l a g : Int) : List Int := (List.range (rowsV l a g).toNat).map fun (i : Nat) => (i : Int) * (a + g)
theorem placesV_len (l a g : Int) : (placesV l a g).length ≤ 1100 := by
  unfold placesV
  have := rowsV_le l a g
  simp
  omega
theorem rows_range (l a g : Int) (h : 0 ≤ rowsV l a g) : (1 ≤ l ∧ l ≤ 1000) ∧ (1 ≤ a ∧ a ≤ 500) ∧ (0 ≤ g ∧ g ≤ 100) := by
  unfold rowsV at h
  split at h
  · assumption
  · omega
theorem place_bd (a g : Int) (i : Nat) (h1 : 1 ≤ a ∧ a ≤ 500) (h2 : 0 ≤ g ∧ g ≤ 100) (h3 : i ≤ 1100) : 0 ≤ (i : Int) * (a + g) ∧ (i : Int) * (a + g) ≤ 1100 * 600 :=
  ⟨Int.mul_nonneg (by omega) (by omega), Int.mul_le_mul (by omega) (by omega) (by omega) (by omega)⟩
theorem placesI (l a g : Int) : Ev (fun k => impl_PlacesOf.f k l a g) (placesV l a g) := by
  unfold impl_PlacesOf.f
  simp only [rowsI, Option.bind_some]
  have hb := rowsV_le l a g
  by_cases c : rowsV l a g < 0
  · simp only [if_pos c]
    refine ev_const ?_
    unfold placesV
    rw [show (rowsV l a g).toNat = 0 by omega]
    rfl
  · simp only [if_neg c]
    obtain ⟨r1, r2, r3⟩ := rows_range l a g (by omega)
    refine ev_build (fun k s i => impl_PlacesOf.l0 k a g s (rowsV l a g) i) (rowsV l a g).toNat (fun (i : Nat) => (i : Int) * (a + g)) (fun k s i hi hs => ?_) (fun k s => ?_)
    · have hp := place_bd a g i r2 r3 (by omega)
      simp only [impl_PlacesOf.l0]
      rw [if_pos (by omega), if_pos (by omega), w64 (x := a + g) (by omega) (by omega), w64 (x := (i : Int) * (a + g)) (by omega) (by omega), w64 (by omega) (by omega)]
    · simp only [impl_PlacesOf.l0]
      rw [if_neg (by omega)]
theorem placesS (l a g : Int) : Ev (fun k => spec_PlacesOf.f k l a g) (placesV l a g) := by
  unfold spec_PlacesOf.f
  simp only [rowsS, Option.bind_some]
  have hb := rowsV_le l a g
  by_cases c : rowsV l a g < 0
  · refine ev_now fun k => ?_
    simp only [spec_PlacesOf.l0]
    rw [if_neg (by omega)]
    unfold placesV
    rw [show (rowsV l a g).toNat = 0 by omega]
    rfl
  · obtain ⟨r1, r2, r3⟩ := rows_range l a g (by omega)
    refine ev_build (fun k s i => spec_PlacesOf.l0 k a g s (rowsV l a g) i) (rowsV l a g).toNat (fun (i : Nat) => (i : Int) * (a + g)) (fun k s i hi hs => ?_) (fun k s => ?_)
    · have hp := place_bd a g i r2 r3 (by omega)
      simp only [spec_PlacesOf.l0]
      rw [if_pos (by omega), if_pos (by omega), w64 (x := a + g) (by omega) (by omega), w64 (x := (i : Int) * (a + g)) (by omega) (by omega), w64 (by omega) (by omega)]
    · simp only [spec_PlacesOf.l0]
      rw [if_neg (by omega)]
theorem FnExactPlacesOf : laws_FnExactPlacesOf.Pure := by
  intro l a g _ _ _
  refine Ev.rounds ?_
  unfold laws_FnExactPlacesOf.f
  have hl := placesV_len l a g
  obtain ⟨m, b, hm, hh, h0⟩ := mark_held (placesV l a g) (by omega)
  have he := eqIntS_f (placesV l a g) (placesV l a g) (by omega)
  rw [decide_eq_true rfl] at he
  refine Ev.bind (placesS l a g) (Ev.bind (placesI l a g) (Ev.bind he ?_))
  simp only [if_true]
  refine Ev.bind hm (Ev.bind hh ?_)
  simp only [if_neg (show ¬ m < 0 by omega), if_true]
  refine Ev.bind (placesI l a g) (Ev.bind he ?_)
  simp only [if_true]
  refine Ev.bind hh ?_
  simp only [if_neg (show ¬ m < 0 by omega), if_true]
  exact Ev.now _
end Go.Proofs.Ytnhkneicepmiiaa.Pure
