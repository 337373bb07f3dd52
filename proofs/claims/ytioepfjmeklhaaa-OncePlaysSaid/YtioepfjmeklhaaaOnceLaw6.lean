/- The reference's window says what the program's window says. -/
import Derived.Test.YtioepfjmeklhaaaOnceR3
import Derived.Test.YtioepfjmeklhaaaOnceLaw4
namespace Go.Proofs.Ytioepfjmeklhaaa
open Go
set_option linter.unusedVariables false
set_option linter.unusedSimpArgs false
set_option maxHeartbeats 3200000

theorem rows_mem {rs : List (Option Rw)} {c : Int} {r : Rw} (h : rowS rs c = some r) : r ∈ rowsOf rs := by
  unfold rowS at h
  split at h
  · unfold rowsOf
    rw [List.mem_filterMap]
    refine ⟨some r, ?_, rfl⟩
    have hlt : c.toNat < rs.length := by
      refine Nat.lt_of_not_le fun hle => ?_
      simp [List.getD, hle] at h
    have : rs[c.toNat] = some r := by simpa [List.getD, hlt] using h
    rw [← this]; exact List.getElem_mem hlt
  · cases h
theorem mem_rows {rs : List (Option Rw)} (hw : WinOk rs) {x : Rw} (h : x ∈ rowsOf rs) : rowS rs x.st.c = some x := by
  unfold rowsOf at h
  obtain ⟨o, ho, e⟩ := List.mem_filterMap.1 h
  have e : o = some x := e
  obtain ⟨i, hi, rfl⟩ := List.getElem_of_mem ho
  have hr : rowS rs (i : Int) = some x := row_ix i (by have := hw.1; omega) (by rw [List.getElem?_eq_getElem hi, e])
  rw [(hw.2 _ _ hr).1]; exact hr
theorem rix_is {rs : List (Option Rw)} (hw : WinOk rs) {c : Int} {i : Nat} (h : rix (rowsOf rs) c = some i) : rowS rs c = some ((rowsOf rs).getD i ⟨⟨0, 0, 0⟩, []⟩) := by
  obtain ⟨hi, hc⟩ := rix_some h
  have := mem_rows hw (List.getElem_mem hi)
  rw [hc] at this
  rw [this]; simp [List.getD, hi]
theorem rix_no {rs : List (Option Rw)} (hw : WinOk rs) {c : Int} (h : rix (rowsOf rs) c = none) : rowS rs c = none := by
  cases hr : rowS rs c with
  | none => rfl
  | some r =>
    have h1 := List.findIdx?_eq_none_iff.1 h r (rows_mem hr)
    simp only [decide_eq_false_iff_not] at h1
    exact absurd (hw.2 _ _ hr).1 h1
theorem rask_eq {rs : List (Option Rw)} (hw : WinOk rs) (s : Stp) : raskS (rowsOf rs) s = askS rs s := by
  unfold raskS askS
  by_cases hm : mayS s
  · rw [if_pos hm, if_pos hm]
    rcases hr : rix (rowsOf rs) s.c with _ | i
    · rw [rix_no hw hr]
    · have h1 := rix_is hw hr
      rw [h1]
      have hc := (hw.2 _ _ h1).1
      dsimp only
      generalize (rowsOf rs).getD i ⟨⟨0, 0, 0⟩, []⟩ = r at hc ⊢
      by_cases e1 : r.st.l < s.l
      · have k : kindS s r.st = 3 := by
          unfold kindS
          rw [if_neg (show ¬ elderS s r.st = true by simp only [elderS, decide_eq_true_eq]; omega), if_pos (show youngerS s r.st = true by simp only [youngerS, decide_eq_true_eq]; omega)]
        rw [k, if_pos e1]; rfl
      · rw [if_neg e1]
        by_cases e2 : s.l < r.st.l ∨ s.s < r.st.s
        · have k : kindS s r.st = 2 := by
            unfold kindS
            rw [if_pos (show elderS s r.st = true by simp only [elderS, decide_eq_true_eq]; omega)]
          rw [k, if_pos e2]; rfl
        · rw [if_neg e2]
          by_cases e3 : s.s = r.st.s
          · have k : kindS s r.st = 1 := by
              unfold kindS
              rw [if_neg (show ¬ elderS s r.st = true by simp only [elderS, decide_eq_true_eq]; omega), if_neg (show ¬ youngerS s r.st = true by simp only [youngerS, decide_eq_true_eq]; omega), if_pos (show sameS s r.st = true by simp only [sameS, Bool.and_eq_true, decide_eq_true_eq]; omega)]
            rw [k, if_pos e3]; rfl
          · have k : kindS s r.st = 0 := by
              unfold kindS
              rw [if_neg (show ¬ elderS s r.st = true by simp only [elderS, decide_eq_true_eq]; omega), if_neg (show ¬ youngerS s r.st = true by simp only [youngerS, decide_eq_true_eq]; omega), if_neg (show ¬ sameS s r.st = true by simp only [sameS, Bool.and_eq_true, decide_eq_true_eq]; omega)]
            rw [k, if_neg e3]; rfl
  · rw [if_neg hm, if_neg hm]
theorem rlife_eq {rs : List (Option Rw)} (hw : WinOk rs) (c : Int) : rlifeS (rowsOf rs) c = lifeS rs c := by
  unfold rlifeS lifeS
  rcases hr : rix (rowsOf rs) c with _ | i
  · rw [rix_no hw hr]
  · rw [rix_is hw hr]
theorem rins_eq {rs : List (Option Rw)} (hw : WinOk rs) (s : Stp) (b : List UInt8) (hm : mayS s) : rins (rowsOf rs) ⟨s, b⟩ = rowsOf (rs.set s.c.toNat (some ⟨s, b⟩)) := by
  obtain ⟨hl, hr⟩ := hw
  match rs, hl with
  | [x0, x1, x2, x3], _ =>
    have h0 : ∀ r, x0 = some r → r.st.c = 0 := fun r e => (hr 0 r (row_ix 0 (by decide) (by rw [e]; rfl))).1
    have h1 : ∀ r, x1 = some r → r.st.c = 1 := fun r e => (hr 1 r (row_ix 1 (by decide) (by rw [e]; rfl))).1
    have h2 : ∀ r, x2 = some r → r.st.c = 2 := fun r e => (hr 2 r (row_ix 2 (by decide) (by rw [e]; rfl))).1
    have h3 : ∀ r, x3 = some r → r.st.c = 3 := fun r e => (hr 3 r (row_ix 3 (by decide) (by rw [e]; rfl))).1
    clear hr
    unfold mayS at hm
    have hc : s.c = 0 ∨ s.c = 1 ∨ s.c = 2 ∨ s.c = 3 := by omega
    clear hm
    rcases x0 with _ | r0 <;> rcases x1 with _ | r1 <;> rcases x2 with _ | r2 <;> rcases x3 with _ | r3 <;>
      (try have g0 := h0 _ rfl) <;> (try have g1 := h1 _ rfl) <;> (try have g2 := h2 _ rfl) <;> (try have g3 := h3 _ rfl) <;> clear h0 h1 h2 h3 <;>
      rcases hc with hc | hc | hc | hc <;> simp [rins, rstep, rowsOf, *]
theorem rdone_eq {rs : List (Option Rw)} (hw : WinOk rs) (s : Stp) (b : List UInt8) : rdoneS (rowsOf rs) s b = ((doneS rs s b).1, rowsOf (doneS rs s b).2) := by
  unfold rdoneS
  rw [rask_eq hw]
  by_cases h : (doneS rs s b).1 = 0
  · obtain ⟨hm, _, e⟩ := doneS_ok hw h
    have hn : ¬ ((askS rs s).1 = 2 ∨ (askS rs s).1 = 1) := fun hh => by rw [doneS, if_pos hh] at h; cases h
    rw [if_neg hn, rins_eq hw s b hm, e, h]
  · have hy : (askS rs s).1 = 2 ∨ (askS rs s).1 = 1 := Decidable.byContradiction fun hh => h (by rw [doneS, if_neg hh])
    rw [if_pos hy, doneS, if_pos hy]
theorem ldW_back : ∀ (l : List Rw) (rs : List (Option Rw)) (k : Int), rs.length = 4 → ldOk l k = true → -1 ≤ k → (∀ i : Nat, (i : Int) > k → i < 4 → rs[i]? = some none) → rowsOf (ldW rs l) = rowsOf rs ++ l
  | [], rs, k, _, _, _, _ => by simp [ldW]
  | r :: l, rs, k, hl, h, hk, hn => by
    simp only [ldOk, Bool.and_eq_true, decide_eq_true_eq] at h
    obtain ⟨⟨hm, hlt⟩, hrest⟩ := h
    have hm' := hm
    unfold mayS at hm'
    have ih := ldW_back l (rs.set r.st.c.toNat (some r)) r.st.c (by simpa using hl) hrest (by omega) (fun i hi h4 => by
      rw [List.getElem?_set_ne (by omega)]; exact hn i (by omega) h4)
    rw [ldW, ih]
    have hset : rowsOf (rs.set r.st.c.toNat (some r)) = rowsOf rs ++ [r] := by
      have hc : r.st.c.toNat < rs.length := by omega
      have hdrop : ∀ i : Nat, r.st.c.toNat ≤ i → rowsOf (rs.drop i) = [] := fun i hi => by
        unfold rowsOf
        rw [List.filterMap_eq_nil_iff]
        intro a ha
        obtain ⟨q, hq, rfl⟩ := List.getElem_of_mem ha
        rw [List.length_drop] at hq
        have := hn (i + q) (by omega) (by omega)
        rw [List.getElem_drop]
        rw [List.getElem?_eq_getElem (by omega)] at this
        simpa using this
      have h1 : rs.set r.st.c.toNat (some r) = rs.take r.st.c.toNat ++ some r :: rs.drop (r.st.c.toNat + 1) := by rw [List.set_eq_take_append_cons_drop, if_pos hc]
      have h2 : rs = rs.take r.st.c.toNat ++ rs.drop r.st.c.toNat := (List.take_append_drop _ _).symm
      have e1 := hdrop (r.st.c.toNat + 1) (by omega)
      have e2 := hdrop r.st.c.toNat (Nat.le_refl _)
      unfold rowsOf at e1 e2 ⊢
      rw [h1, List.filterMap_append, List.filterMap_cons]
      conv => rhs; rw [h2, List.filterMap_append, e2, List.append_nil]
      simp [e1]
    rw [hset, List.append_assoc]; rfl
theorem ld_back {l : List Rw} (h : ldOk l (-1) = true) : rowsOf (ldW ws0 l) = l := by
  have := ldW_back l ws0 (-1) rfl h (by omega) (fun i _ h4 => by
    match i, h4 with
    | 0, _ | 1, _ | 2, _ | 3, _ => rfl)
  simpa [rowsOf] using this
end Go.Proofs.Ytioepfjmeklhaaa
