/- Blocks in another order, or fewer of them, shown by counting. -/
import Derived.Test.YtkjneelekfdpfaaOps3
namespace Go.Proofs.Ytkjneelekfdpfaa
open Go
set_option linter.unusedVariables false

section
open Classical
theorem ex_sub {α : Type} : ∀ (K H : List α), (∀ a, K.count a ≤ H.count a) → ∃ R, H.Perm (K ++ R)
  | [], H, _ => ⟨H, .refl _⟩
  | x :: K, H, h => by
    have hx : x ∈ H := by
      have := h x
      rw [List.count_cons_self] at this
      exact List.count_pos_iff.1 (by omega)
    have hp := List.perm_cons_erase hx
    obtain ⟨R, hR⟩ := ex_sub K (H.erase x) (fun a => by
      have h1 := h a
      have h2 := hp.count_eq a
      rw [List.count_cons] at h1 h2
      omega)
    exact ⟨R, hp.trans (hR.cons x)⟩
theorem sum_ind {α : Type} (a : α) : ∀ (l : List α), (l.map fun x => if x = a then 1 else 0).sum = l.count a
  | [] => rfl
  | x :: l => by
    rw [List.map_cons, List.sum_cons, sum_ind a l, List.count_cons]
    by_cases h : x = a <;> simp [h]; omega
theorem sub_of {α : Type} {K H : List α} (h : ∀ f : α → Nat, (K.map f).sum ≤ (H.map f).sum) : ∃ R, H.Perm (K ++ R) := ex_sub K H fun a => by
  have := h (fun x => if x = a then 1 else 0)
  rwa [sum_ind, sum_ind] at this
end
section
variable {w0 w : World} {G : Im} {H K R' : Hp} {n : Nat} {ds : List Deferred} {env : Env} {P : Program} {Q : Exit → Act → World → Prop} {x y : Code} {R : Act → World → Prop}
abbrev SubH (K H : Hp) : Prop := ∀ f : Nat × Obj → Nat, (K.map f).sum ≤ (H.map f).sum
theorem Cel.allI {b : Nat} {L : List Value} {t : TypeId} {j : Nat} {u : Value} (hb : G b = some (Cs L t)) (hj : L[j]? = some u) : Cel G H b (0 + j) u := by rw [Nat.zero_add]; exact Cel.imm hb hj
theorem Sat.none (h : Sat w0 w G H) : Sat w0 w G [] := Sat.drop (K := []) h
theorem a_ret0 {nx : Act → World → Prop} {v : Value} (h : Holds n ds w0 env G H nx) (hs : Sat w0 w G H) : After n ds env none Q nx (.returned v) w := h.atw hs
theorem Sat.sub (h : Sat w0 w G H) (hs : SubH K H) : Sat w0 w G K := by
  obtain ⟨R, hR⟩ := sub_of hs
  exact (h.perm hR).drop
theorem Sat.sb (h : Sat w0 w G H) (hs : SubH K H := by intro f; first | omega | (simp only [List.map_append, List.map_cons, List.map_nil, List.sum_append, List.sum_cons, List.sum_nil, List.append_nil, List.nil_append]; omega)) : Sat w0 w G K := h.sub hs
theorem c_sub (K : Hp) (hs : SubH K H) (h : Holds n ds w0 env G K R) : Holds n ds w0 env G H R := fun a w ht hw => h a w ht (hw.sub hs)
theorem c_kt (d : Nat) {p : Prop} [Decidable p] (hd : env.lookup d = some (.bool (decide p))) (h : p) (k : Holds n ds w0 ((d, .bool true) :: env) G H R) : Holds n ds w0 env G H R := c_part_d d p hd (fun _ => k) (fun e => absurd h e)
theorem c_kf (d : Nat) {p : Prop} [Decidable p] (hd : env.lookup d = some (.bool (decide p))) (h : ¬ p) (k : Holds n ds w0 ((d, .bool false) :: env) G H R) : Holds n ds w0 env G H R := c_part_d d p hd (fun e => absurd e h) (fun _ => k)
theorem c_knt (d : Nat) {p : Prop} [Decidable p] (hd : env.lookup d = some (.bool (!decide p))) (h : ¬ p) (k : Holds n ds w0 ((d, .bool true) :: env) G H R) : Holds n ds w0 env G H R := c_part_nd d p hd (fun _ => k) (fun e => absurd e h)
theorem c_knf (d : Nat) {p : Prop} [Decidable p] (hd : env.lookup d = some (.bool (!decide p))) (h : p) (k : Holds n ds w0 ((d, .bool false) :: env) G H R) : Holds n ds w0 env G H R := c_part_nd d p hd (fun e => absurd h e) (fun _ => k)
theorem n_at {env' : Env} (he : Env.sub env env') (hsp : SubH K H) : Holds n ds w0 env G H (fun a w => TT a n ds env' ∧ Sat w0 w G K) := fun a w ht hs => ⟨ht.mono (Env.sub_spec he), hs.sub hsp⟩
theorem n_next {α : Type} {env' : α → Env} {G' : α → Im} {H' : α → Hp} {inv : α → Prop} {mu : α → Nat} {x : α} (y : α) (hy : inv y) (hm : mu y < mu x) (he : Env.sub env (env' y)) (hG : G' y = G) (hsp : SubH (H' y) H) :
    Holds n ds w0 env G H (fun a w => ∃ y, inv y ∧ mu y < mu x ∧ TT a n ds (env' y) ∧ Sat w0 w (G' y) (H' y)) := fun a w ht hs =>
  ⟨y, hy, hm, ht.mono (Env.sub_spec he), by rw [hG]; exact hs.sub hsp⟩
theorem n_mid {α : Type} {env' : α → Env} {G' : α → Im} {H' : α → Hp} {inv : α → Prop} (z : α) (hz : inv z) (he : Env.sub env (env' z)) (hG : G' z = G) (hsp : SubH (H' z) H) :
    Holds n ds w0 env G H (fun a w => ∃ z, inv z ∧ TT a n ds (env' z) ∧ Sat w0 w (G' z) (H' z)) := fun a w ht hs => ⟨z, hz, ht.mono (Env.sub_spec he), by rw [hG]; exact hs.sub hsp⟩
end
theorem sbx {A B : Hp} (h : SubH A B := by exact (fun f => by first | omega | (simp only [List.map_append, List.map_cons, List.map_nil, List.sum_append, List.sum_cons, List.sum_nil, List.append_nil, List.nil_append]; omega))) : SubH A B := h
end Go.Proofs.Ytkjneelekfdpfaa
