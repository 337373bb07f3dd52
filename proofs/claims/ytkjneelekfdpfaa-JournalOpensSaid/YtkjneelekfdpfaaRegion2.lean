/- Regions that draw their order: what only reads is taken ahead of what is written in the end, though what is written waits for it only through others. -/
import Derived.Test.YtkjneelekfdpfaaRegion
namespace Go.Proofs.Ytkjneelekfdpfaa
open Go
set_option linter.unusedVariables false
set_option linter.unusedSimpArgs false

section
variable {P : Program} {ops : Array Oper} {Q : Exit → Act → World → Prop} {S : World → Prop} {late blk : List Nat}

/-- The operations 'blk' wait for number i, directly or through one another, and so does each late one that has not come up. -/
structure Bk (ops : Array Oper) (late blk : List Nat) (L : Array Bool) (i : Nat) : Prop where
  und : ∀ b ∈ blk, L.getD b true = false
  wait : ∀ b ∈ blk, ∀ o, ops[b]? = some o → ∃ e ∈ o.after, Region.binds .any e = true ∧ (e.on = i ∨ e.on ∈ blk)
  cov : ∀ j ∈ late, L.getD j true = true ∨ j ∈ blk
def bkB (ops : Array Oper) (late blk : List Nat) (L : Array Bool) (i : Nat) : Bool :=
  blk.all (fun b => !(L.getD b true) && (match ops[b]? with | none => true | some o => o.after.any fun e => Region.binds .any e && (e.on == i || blk.contains e.on))) && late.all (fun j => L.getD j true || blk.contains j)
theorem bk_of {L : Array Bool} {i : Nat} (h : bkB ops late blk L i = true) : Bk ops late blk L i := by
  unfold bkB at h
  rw [Bool.and_eq_true] at h
  refine ⟨fun b hb => ?_, fun b hb o ho => ?_, fun j hj => ?_⟩
  · have := List.all_eq_true.1 h.1 b hb
    simp only [Bool.and_eq_true, Bool.not_eq_true'] at this
    exact this.1
  · have := List.all_eq_true.1 h.1 b hb
    rw [ho] at this
    simp only [Bool.and_eq_true] at this
    obtain ⟨e, he, hx⟩ := Array.any_eq_true'.1 this.2
    simp only [Bool.and_eq_true, Bool.or_eq_true, beq_iff_eq, List.contains_eq_mem, decide_eq_true_eq] at hx
    exact ⟨e, he, hx.1, hx.2⟩
  · have := List.all_eq_true.1 h.2 j hj
    simpa using this
theorem undone_not {L : Array Bool} {k : Nat} (h0 : L.getD k true = false) (h1 : L.getD k false = true) : False := by
  rcases Nat.lt_or_ge k L.size with h' | h'
  · simp [h'] at h0 h1; rw [h0] at h1; cases h1
  · simp [Array.getElem?_eq_none h'] at h1
theorem Bk.not_ready {L : Array Bool} {i j : Nat} (h : Bk ops late blk L i) (hi : i ∈ Region.ready .any ops L) (hj : j ∈ Region.ready .any ops L) : j ∉ blk := fun hm => by
  obtain ⟨hun, oj, hoj, hall⟩ := mem_ready.1 hj
  obtain ⟨e, he, hb, hon⟩ := h.wait j hm oj hoj
  have h2 := hall e he hb
  rcases hon with hon | hon
  · rw [hon] at h2
    have h0 := (mem_ready.1 hi).1
    rcases Nat.lt_or_ge i L.size with h' | h'
    · simp [h'] at h0 h2; rw [h0] at h2; cases h2
    · simp [Array.getElem?_eq_none h'] at h2
  · have h0 := h.und _ hon
    rcases Nat.lt_or_ge e.on L.size with h' | h'
    · simp [h'] at h0 h2; rw [h0] at h2; cases h2
    · simp [Array.getElem?_eq_none h'] at h2
theorem Bk.notlate {L : Array Bool} {i j : Nat} (h : Bk ops late blk L i) (hi : i ∈ Region.ready .any ops L) (hj : j ∈ Region.ready .any ops L) : late.contains j = false := by
  cases hc : late.contains j with
  | false => rfl
  | true =>
    have hm : j ∈ late := by simpa using hc
    rcases h.cov j hm with h1 | h1
    · have h0 := (mem_ready.1 hj).1
      rw [h1] at h0; cases h0
    · exact absurd h1 (h.not_ready hi hj)
theorem Bk.set {L : Array Bool} {i j : Nat} (h : Bk ops late blk L i) (hi : i ∈ Region.ready .any ops L) (hj : j ∈ Region.ready .any ops L) : Bk ops late blk (L.setIfInBounds j true) i := by
  refine ⟨fun b hb => ?_, h.wait, fun k hk => (h.cov k hk).imp (fun h1 => ?_) id⟩
  · rw [getD_set_ne true (fun e => h.not_ready hi hj (by rw [e]; exact hb))]; exact h.und b hb
  · by_cases hjk : j = k
    · subst hjk
      rcases Nat.lt_or_ge j L.size with h' | h'
      · simp [h']
      · simp [Array.getElem?_eq_none h', h']
    · rw [getD_set_ne true hjk]; exact h1

theorem wpR_firstB {i : Nat} {oi : Oper} {v : Value} (hi : ops[i]? = some oi) (hsel : ∀ (j : Nat) (o : Oper) cs b, ops[j]? = some o → o.op ≠ .select cs b)
    (hQ : ∀ c a w, Q (.panic c) (a.put oi.dst v) w → Q (.panic c) a w) :
    ∀ (fuel : Nat) (L : Array Bool) (a : Act) (w : World),
      (∀ j oj, ops[j]? = some oj → j ≠ i → L.getD j true = false → (∀ e ∈ oj.after, Region.binds .any e = true → e.on ≠ i) → oi.apart ops oj = true) →
      Bk ops late blk L i → i ∈ Region.ready .any ops L → YieldsIf P ops S oi v a → S w →
      wpR P ops late Q S fuel (L.setIfInBounds i true) (a.put oi.dst v) w → wpR P ops late Q S (fuel + 1) L a w := by
  intro fuel
  induction fuel with
  | zero =>
    intro L a w _ _ hr hy hS H
    refine ⟨fun h => (by rw [h] at hr; cases hr), fun j hj => ?_⟩
    by_cases hji : j = i
    · subst hji; exact hy.wpOp hi hS ⟨.inr hS, H⟩
    · have h1 := ready_mono hj hji
      rw [H.1] at h1
      cases h1
  | succ fuel ih =>
    intro L a w hfree hlate hr hy hS H
    refine ⟨fun h => (by rw [h] at hr; cases hr), fun j hj => ?_⟩
    by_cases hji : j = i
    · subst hji; exact hy.wpOp hi hS ⟨.inr hS, H⟩
    · have h1 := H.2 j (ready_mono hj hji)
      obtain ⟨hjun, oj, hoj, hall⟩ := mem_ready.1 hj
      have hnot : ∀ e ∈ oj.after, Region.binds .any e = true → e.on ≠ i := fun e he hb heq => by
        have h1 := hall e he hb
        have h0 := (mem_ready.1 hr).1
        rw [heq] at h1
        rcases Nat.lt_or_ge i L.size with h' | h'
        · simp [h'] at h0 h1; rw [h0] at h1; cases h1
        · simp [Array.getElem?_eq_none h'] at h1
      have h2 := wpOp_putIf hoj (hfree j oj hoj hji hjun hnot) (fun cs b => hsel i oi cs b hi) (fun cs b => hsel j oj cs b hoj) hQ hy h1
      have hfree' : ∀ k ok, ops[k]? = some ok → k ≠ i → (L.setIfInBounds j true).getD k true = false →
          (∀ e ∈ ok.after, Region.binds .any e = true → e.on ≠ i) → oi.apart ops ok = true := fun k ok hk hki hun hno => by
        refine hfree k ok hk hki ?_ hno
        by_cases hjk : j = k
        · subst hjk; exact hjun
        · rw [getD_set_ne true hjk] at hun; exact hun
      have hnl := hlate.notlate hr hj
      refine wpOp_mono (fun a' w' h3 => ?_) h2
      obtain ⟨hy', hs', hrest⟩ := h3
      have hS' : S w' := hs'.resolve_left (by rw [hnl]; simp)
      rw [Array.setIfInBounds_comm _ _ (Ne.symm hji)] at hrest
      exact ⟨.inr hS', ih (L.setIfInBounds j true) a' w' hfree' (hlate.set hr hj) (ready_mono hr (Ne.symm hji)) hy' hS' hrest⟩
end

variable {w0 w : World} {G G' : Im} {H H' R' : Hp}
variable {n : Nat} {ds : List Deferred} {env : Env} {P : Program} {Q : Exit → Act → World → Prop} {ops : Array Oper} {late : List Nat} {S : World → Prop} {fuel : Nat} {L : Array Bool}
theorem r_takeB (i : Nat) (blk : List Nat) {oi : Oper} {d : Nat} {v : Value} {G1 : Im} {H1 : Hp} (hi : ops[i]? = some oi) (hs : Region.noSelect ops = true) (hf : Region.free .any ops L i = true) (hr : (Region.ready .any ops L).contains i = true)
    (hl : bkB ops late blk L i = true) (hg : gOn ops env oi = some true) (hdst : oi.dst = some d) (hd : Nat.blt d n = true) (hv : Val P env G H oi v) (hS : ∀ w, Sat w0 w G1 H1 → Sat w0 w G H) (hQ : PanicOk Q)
    (k : Holds n ds w0 ((d, v) :: env) G1 H1 (wpR P ops late Q (fun w => Sat w0 w G H) fuel (L.setIfInBounds i true))) :
    Holds n ds w0 env G1 H1 (wpR P ops late Q (fun w => Sat w0 w G H) (fuel + 1) L) := fun a w ht hw => by
  refine wpR_firstB hi (Region.noSelect_spec hs) (fun c a w h => hQ c a _ _ w (by rw [hdst] at h; exact h)) fuel L a w (Region.free_spec hi hf) (bk_of hl) (by simpa using hr) (.inl ⟨gOn_spec ht hg, fun w' hw' => hv a n ds w0 w' ht hw'⟩) (hS w hw) ?_
  rw [hdst]
  exact k _ w (ht.put (of_blt hd) v) hw
theorem r_skipB (i : Nat) (blk : List Nat) {oi : Oper} {d : Nat} {G1 : Im} {H1 : Hp} (hi : ops[i]? = some oi) (hs : Region.noSelect ops = true) (hf : Region.free .any ops L i = true) (hr : (Region.ready .any ops L).contains i = true)
    (hl : bkB ops late blk L i = true) (hg : gOn ops env oi = some false) (hdst : oi.dst = some d) (hd : Nat.blt d n = true) (hS : ∀ w, Sat w0 w G1 H1 → Sat w0 w G H) (hQ : PanicOk Q)
    (k : Holds n ds w0 ((d, undef) :: env) G1 H1 (wpR P ops late Q (fun w => Sat w0 w G H) fuel (L.setIfInBounds i true))) :
    Holds n ds w0 env G1 H1 (wpR P ops late Q (fun w => Sat w0 w G H) (fuel + 1) L) := fun a w ht hw => by
  refine wpR_firstB hi (Region.noSelect_spec hs) (fun c a w h => hQ c a _ _ w (by rw [hdst] at h; exact h)) fuel L a w (Region.free_spec hi hf) (bk_of hl) (by simpa using hr) (.inr ⟨gOn_spec ht hg, rfl⟩) (hS w hw) ?_
  rw [hdst]
  exact k _ w (ht.put (of_blt hd) undef) hw
end Go.Proofs.Ytkjneelekfdpfaa
