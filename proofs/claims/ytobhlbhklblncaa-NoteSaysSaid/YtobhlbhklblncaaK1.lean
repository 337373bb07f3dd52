/- A small layer of its own over the plain walk: what the slots hold (an environment), what the heap holds (blocks that never change, and blocks that are owned), one rule for each operation. One rule for each operation, over Base. Regions that draw their order: what only reads is taken first; the beginning and the end of a function. The same rules within a fence (a range over a function: the function that goes through it, its rounds, and the statement itself). A range over a function whose rounds never leave it: the rule for the statement, and what the function that is ranged over owes. -/
import Derived.WalkKit
import Derived.WalkSpells
import Derived.WalkLawsBesides
import Derived.OrdersHeld
import Derived.RangeFuncKeeps
import Derived.RangeFuncCalls
import Derived.OwnWalkIn
namespace Go.Proofs.Ytobhlbhklblncaa
section
open Go
set_option linter.unusedVariables false
set_option linter.unusedSimpArgs false

/-! ### Slots -/
abbrev Env := List (Nat × Value)

def ev (env : Env) : Operand → Option Value
  | .tmp t => env.lookup t
  | .const v => some v
  | .global g => some (.pointer (some ⟨g, 0, none⟩))
  | .func f => some (.func (.func f) #[] #[])

def evl (env : Env) : List Operand → Option (List Value)
  | [] => some []
  | x :: xs => match ev env x, evl env xs with
    | some v, some vs => some (v :: vs)
    | _, _ => none

structure TT (a : Act) (n : Nat) (ds : List Deferred) (env : Env) : Prop where
  size : a.tmps.size = n
  defers : a.defers = ds
  get : ∀ i v, env.lookup i = some v → a.tmps[i]? = some v

theorem TT.eval {a : Act} {n : Nat} {ds : List Deferred} {env : Env} (h : TT a n ds env) {x : Operand} {v : Value} (hx : ev env x = some v) : a.eval x = v := by
  cases x with
  | tmp t =>
    have h1 := h.get t v hx
    simp [Act.eval, h1]
  | const u => simpa [ev, Act.eval] using hx
  | global g => simpa [ev, Act.eval] using hx
  | func f => simpa [ev, Act.eval] using hx

theorem TT.evall {a : Act} {n : Nat} {ds : List Deferred} {env : Env} (h : TT a n ds env) : ∀ {l : List Operand} {vs : List Value}, evl env l = some vs → l.map a.eval = vs
  | [], vs, hx => by simpa [evl] using hx
  | x :: xs, vs, hx => by
    simp only [evl] at hx
    split at hx
    · rename_i v ws h1 h2
      cases hx
      simp [h.eval h1, h.evall h2]
    · cases hx

theorem TT.put {a : Act} {n : Nat} {ds : List Deferred} {env : Env} (h : TT a n ds env) {d : Nat} (hd : d < n) (v : Value) : TT (a.put (some d) v) n ds ((d, v) :: env) := by
  refine ⟨by simp [Act.put, h.size], h.defers, fun i u hu => ?_⟩
  simp only [List.lookup] at hu
  split at hu
  · rename_i e
    have e' : i = d := by simpa using e
    subst e'
    cases hu
    simp [Act.put, h.size, hd]
  · rename_i e
    have e' : ¬ i = d := by simpa using e
    simp only [Act.put]
    rw [Array.getElem?_setIfInBounds_ne (by omega)]
    exact h.get i u hu

theorem TT.mono {a : Act} {n : Nat} {ds : List Deferred} {env env' : Env} (h : TT a n ds env) (he : ∀ i v, env'.lookup i = some v → env.lookup i = some v) : TT a n ds env' :=
  ⟨h.size, h.defers, fun i v hv => h.get i v (he i v hv)⟩

/-- All that env' says, env says too. -/
def Env.sub (env : Env) : Env → Prop
  | [] => True
  | (i, v) :: r => env.lookup i = some v ∧ Env.sub env r

theorem Env.sub_spec {env : Env} : ∀ {env' : Env}, Env.sub env env' → ∀ i v, env'.lookup i = some v → env.lookup i = some v
  | [], _, i, v, h => by cases h
  | (j, u) :: r, hs, i, v, h => by
    simp only [List.lookup] at h
    split at h
    · rename_i e
      have e' : i = j := by simpa using e
      cases h; subst e'; exact hs.1
    · exact Env.sub_spec hs.2 i v h

/-! ### The heap -/
abbrev Hp := List (Nat × Obj)
abbrev Im := Nat → Option Obj

def Im.le (G G' : Im) : Prop := ∀ b o, G b = some o → G' b = some o
theorem Im.le_refl (G : Im) : Im.le G G := fun _ _ h => h
theorem Im.le.trans {A B C : Im} (h : Im.le A B) (k : Im.le B C) : Im.le A C := fun b o hb => k b o (h b o hb)

structure Sat (w0 w : World) (G : Im) (H : Hp) : Prop where
  os : w.os = w0.os
  tape : w.tape = w0.tape
  output : w.output = w0.output
  size : w0.heap.size ≤ w.heap.size
  imm : ∀ b o, G b = some o → w.heap[b]? = some o
  own : ∀ p, p ∈ H → w.heap[p.1]? = some p.2
  sep : ∀ p, p ∈ H → G p.1 = none
  nodup : (H.map Prod.fst).Nodup

variable {w0 w : World} {G G' : Im} {H H' K R : Hp}

theorem Sat.perm (h : Sat w0 w G H) (hp : H.Perm H') : Sat w0 w G H' :=
  ⟨h.os, h.tape, h.output, h.size, h.imm, fun p hm => h.own p (hp.mem_iff.2 hm), fun p hm => h.sep p (hp.mem_iff.2 hm), (hp.map Prod.fst).nodup_iff.1 h.nodup⟩

theorem Sat.drop (h : Sat w0 w G (K ++ R)) : Sat w0 w G K :=
  ⟨h.os, h.tape, h.output, h.size, h.imm, fun p hm => h.own p (List.mem_append_left _ hm), fun p hm => h.sep p (List.mem_append_left _ hm), by
    have h1 := h.nodup
    rw [List.map_append] at h1
    exact (List.nodup_append.1 h1).1⟩

theorem Sat.tl {x : Nat × Obj} (h : Sat w0 w G (x :: H)) : Sat w0 w G H :=
  ⟨h.os, h.tape, h.output, h.size, h.imm, fun p hm => h.own p (List.mem_cons_of_mem _ hm), fun p hm => h.sep p (List.mem_cons_of_mem _ hm), (List.nodup_cons.1 h.nodup).2⟩

theorem Sat.weaken (hG : Im.le G G') (h : Sat w0 w G' H) : Sat w0 w G H := by
  refine ⟨h.os, h.tape, h.output, h.size, fun b o hb => h.imm b o (hG b o hb), h.own, fun p hm => ?_, h.nodup⟩
  cases hg : G p.1 with
  | none => rfl
  | some o => exact absurd ((hG _ _ hg).symm.trans (h.sep p hm)) (by simp)

theorem Sat.of_heap {w' : World} (h : Sat w0 w G H) (e1 : w'.os = w.os) (e2 : w'.tape = w.tape) (e3 : w'.output = w.output) (e4 : w'.heap = w.heap) : Sat w0 w' G H :=
  ⟨e1.trans h.os, e2.trans h.tape, e3.trans h.output, by rw [e4]; exact h.size, fun b o hb => by rw [e4]; exact h.imm b o hb, fun p hm => by rw [e4]; exact h.own p hm, h.sep, h.nodup⟩

theorem Sat.drew (h : Sat w0 w G H) : Sat w0 w.drew G H := h.of_heap rfl rfl rfl rfl

theorem Sat.lt (h : Sat w0 w G H) {p : Nat × Obj} (hm : p ∈ H) : p.1 < w.heap.size := (Array.getElem?_eq_some_iff.1 (h.own p hm)).1

theorem Sat.alloc (h : Sat w0 w G H) (o : Obj) : Sat w0 (w.alloc o) G ((w.heap.size, o) :: H) := by
  have old : ∀ k, k < w.heap.size → (w.alloc o).heap[k]? = w.heap[k]? := fun k hk => Go.RowKit.Below.heap_alloc w o k hk
  refine ⟨h.os, h.tape, h.output, ?_, fun b q hb => ?_, fun p hm => ?_, fun p hm => ?_, ?_⟩
  · have := h.size; rw [World.size_alloc]; omega
  · have := h.imm b q hb; rw [old b (Array.getElem?_eq_some_iff.1 this).1]; exact this
  · rcases List.mem_cons.1 hm with rfl | hm
    · exact heap_alloc_new w o
    · rw [old _ (h.lt hm)]; exact h.own p hm
  · rcases List.mem_cons.1 hm with rfl | hm
    · cases hg : G w.heap.size with
      | none => rfl
      | some q => have := (Array.getElem?_eq_some_iff.1 (h.imm _ _ hg)).1; exact absurd this (Nat.lt_irrefl _)
    · exact h.sep p hm
  · simp only [List.map_cons, List.nodup_cons]
    refine ⟨fun hm => ?_, h.nodup⟩
    obtain ⟨p, hp, he⟩ := List.mem_map.1 hm
    have := h.lt hp
    rw [he] at this
    exact absurd this (Nat.lt_irrefl _)

/-- One owned block is written. -/
theorem Sat.upd {b : Nat} {o o' : Obj} (h : Sat w0 w G ((b, o) :: H)) {w' : World} (e1 : w'.os = w.os) (e2 : w'.tape = w.tape) (e3 : w'.output = w.output) (e4 : w.heap.size ≤ w'.heap.size)
    (hb : w'.heap[b]? = some o') (ho : ∀ k, k < w.heap.size → k ≠ b → w'.heap[k]? = w.heap[k]?) : Sat w0 w' G ((b, o') :: H) := by
  have hnd := h.nodup
  simp only [List.map_cons, List.nodup_cons] at hnd
  have hne : ∀ p, p ∈ H → p.1 ≠ b := fun p hp e => hnd.1 (by rw [← e]; exact List.mem_map_of_mem hp)
  have hgb := h.sep (b, o) (List.mem_cons_self ..)
  refine ⟨e1.trans h.os, e2.trans h.tape, e3.trans h.output, Nat.le_trans h.size e4, fun k q hk => ?_, fun p hm => ?_, fun p hm => ?_, ?_⟩
  · have hi := h.imm k q hk
    rw [ho k (Array.getElem?_eq_some_iff.1 hi).1 (fun e => by subst e; rw [hk] at hgb; cases hgb)]; exact hi
  · rcases List.mem_cons.1 hm with rfl | hm
    · exact hb
    · have hi := h.own p (List.mem_cons_of_mem _ hm)
      rw [ho _ (Array.getElem?_eq_some_iff.1 hi).1 (hne p hm)]; exact hi
  · rcases List.mem_cons.1 hm with rfl | hm
    · exact hgb
    · exact h.sep p (List.mem_cons_of_mem _ hm)
  · simp only [List.map_cons, List.nodup_cons]; exact hnd

/-- An owned block is given up for good: from now on nobody writes it. -/
def Im.add (G : Im) (b : Nat) (o : Obj) : Im := fun k => if k = b then some o else G k
theorem Im.le_add {b : Nat} {o : Obj} (h : G b = none) : Im.le G (G.add b o) := fun k q hk => by
  unfold Im.add
  by_cases e : k = b
  · subst e; rw [h] at hk; cases hk
  · rw [if_neg e]; exact hk
theorem Im.add_self (G : Im) (b : Nat) (o : Obj) : G.add b o b = some o := by simp [Im.add]

theorem Sat.freeze {b : Nat} {o : Obj} (h : Sat w0 w G ((b, o) :: H)) : Sat w0 w (G.add b o) H := by
  have hnd := h.nodup
  simp only [List.map_cons, List.nodup_cons] at hnd
  refine ⟨h.os, h.tape, h.output, h.size, fun k q hk => ?_, fun p hm => h.own p (List.mem_cons_of_mem _ hm), fun p hm => ?_, hnd.2⟩
  · unfold Im.add at hk
    split at hk
    · rename_i e; cases hk; subst e; exact h.own _ (List.mem_cons_self ..)
    · exact h.imm k q hk
  · unfold Im.add
    rw [if_neg (fun e => hnd.1 (by rw [← e]; exact List.mem_map_of_mem hm))]
    exact h.sep p (List.mem_cons_of_mem _ hm)

/-! ### Taking blocks out of the list -/
inductive Pick (b : Nat) (o : Obj) : Hp → Hp → Prop
  | head {H : Hp} : Pick b o ((b, o) :: H) H
  | tail {x : Nat × Obj} {H H' : Hp} : Pick b o H H' → Pick b o (x :: H) (x :: H')

theorem Pick.perm {b : Nat} {o : Obj} {H H' : Hp} (h : Pick b o H H') : H.Perm ((b, o) :: H') := by
  induction h with
  | head => exact .refl _
  | tail _ ih => exact (ih.cons _).trans (.swap ..)

/-- 'Split H K R': H is K and R. -/
inductive Split : Hp → Hp → Hp → Prop
  | nil {H : Hp} : Split H [] H
  | cons {b : Nat} {o o' : Obj} {H H1 K R : Hp} : Pick b o H H1 → o = o' → Split H1 K R → Split H ((b, o') :: K) R

theorem Split.refl : ∀ (H : Hp), Split H H []
  | [] => .nil
  | (b, o) :: H => .cons .head rfl (Split.refl H)
theorem Split.rest : ∀ (H : Hp), Split H [] H := fun _ => .nil
theorem Split.perm {H K R : Hp} (h : Split H K R) : H.Perm (K ++ R) := by
  induction h with
  | nil => exact .refl _
  | cons hp he _ ih => subst he; exact hp.perm.trans (ih.cons _)

theorem Sat.split (h : Sat w0 w G H) (hs : Split H K R) : Sat w0 w G (K ++ R) := h.perm hs.perm
theorem Sat.only (h : Sat w0 w G H) (hs : Split H K R) : Sat w0 w G K := (h.split hs).drop

/-- The first block, and what lies behind the next two. -/
theorem Sat.only2 {x y z : Nat × Obj} (h : Sat w0 w G (x :: y :: z :: H)) : Sat w0 w G (x :: H) :=
  (h.perm ((List.Perm.swap y x _).trans ((List.Perm.cons y (List.Perm.swap z x _))))).tl.tl

/-- What a reader may look at: a block that never changes, or an owned one. -/
def Has (G : Im) (H : Hp) (b : Nat) (o : Obj) : Prop := G b = some o ∨ (b, o) ∈ H
theorem Has.heap {b : Nat} {o : Obj} (h : Has G H b o) (hs : Sat w0 w G H) : w.heap[b]? = some o := h.elim (hs.imm b o) (hs.own (b, o))
theorem Has.of_imm {b : Nat} {o : Obj} (h : G b = some o) : Has G H b o := .inl h
theorem Has.head {b : Nat} {o : Obj} : Has G ((b, o) :: H) b o := .inr (List.mem_cons_self ..)
theorem Has.tail {b : Nat} {o : Obj} {x : Nat × Obj} (h : Has G H b o) : Has G (x :: H) b o := h.imp id (List.mem_cons_of_mem _)
theorem Has.le {b : Nat} {o : Obj} (h : Has G [] b o) (hG : Im.le G G') : Has G' H b o := .inl (hG b o (h.resolve_right (by simp)))

/-- A cell that may be looked at. -/
def Cel (G : Im) (H : Hp) (b o : Nat) (v : Value) : Prop := ∃ c t fz, Has G H b (.cells c t fz) ∧ c[o]? = some v
theorem Cel.cell {b o : Nat} {v : Value} (h : Cel G H b o v) (hs : Sat w0 w G H) : w.cell? ⟨b, o, none⟩ = some v := by
  obtain ⟨c, t, fz, hb, hv⟩ := h
  rw [cell_of_row w b o _ _ _ (hb.heap hs)]; exact hv
theorem Cel.head {b o : Nat} {v : Value} {L : List Value} {t : TypeId} (hv : L[o]? = some v) : Cel G ((b, .cells L.toArray t (0, 0)) :: H) b o v := ⟨_, _, _, .head, by simpa using hv⟩
theorem Cel.tail {b o : Nat} {v : Value} {x : Nat × Obj} (h : Cel G H b o v) : Cel G (x :: H) b o v := let ⟨c, t, fz, hb, hv⟩ := h; ⟨c, t, fz, hb.tail, hv⟩
theorem Cel.imm {b o : Nat} {v : Value} {L : List Value} {t : TypeId} (hb : G b = some (.cells L.toArray t (0, 0))) (hv : L[o]? = some v) : Cel G H b o v := ⟨_, _, _, .inl hb, by simpa using hv⟩
theorem Has.mono {b : Nat} {o : Obj} (h : Has G H b o) (hG : Im.le G G') (hH : ∀ p, p ∈ H → p ∈ H') : Has G' H' b o := h.imp (hG b o) (hH _)
theorem Cel.mono {b o : Nat} {v : Value} (h : Cel G H b o v) (hG : Im.le G G') (hH : ∀ p, p ∈ H → p ∈ H') : Cel G' H' b o v := let ⟨c, t, fz, hb, hv⟩ := h; ⟨c, t, fz, hb.mono hG hH, hv⟩

/-- A slice of k elements whose cells, one behind the other, are L. -/
def SV (G : Im) (H : Hp) (v : Value) (k : Nat) (L : List Value) : Prop :=
  ∃ ad cap, v = .slice ad k cap ∧ k ≤ cap ∧ cap ≤ maxLen ∧ ((L = [] ∧ (ad = none → cap = 0)) ∨ ∃ b o, ad = some ⟨b, o, none⟩ ∧ ∀ (j : Nat) u, L[j]? = some u → Cel G H b (o + j) u)
theorem SV.mono {v : Value} {k : Nat} {L : List Value} (h : SV G H v k L) (hG : Im.le G G') (hH : ∀ p, p ∈ H → p ∈ H') : SV G' H' v k L := by
  obtain ⟨ad, cap, hv, h1, h2, h3⟩ := h
  refine ⟨ad, cap, hv, h1, h2, h3.imp id ?_⟩
  rintro ⟨b, o, ha, hc⟩
  exact ⟨b, o, ha, fun j u hj => (hc j u hj).mono hG hH⟩
theorem SV.form {v : Value} {k : Nat} {L : List Value} (h : SV G H v k L) : ∃ ad c, v = .slice ad k c := let ⟨ad, c, hv, _⟩ := h; ⟨ad, c, hv⟩
/-- The whole of a block. -/
theorem SV.block {b k : Nat} {L : List Value} {t : TypeId} (hb : Has G H b (.cells L.toArray t (0, 0))) (hk : k ≤ maxLen) : SV G H (.slice (some ⟨b, 0, none⟩) k k) k L :=
  ⟨_, k, rfl, Nat.le_refl _, hk, .inr ⟨b, 0, rfl, fun j u hj => ⟨_, _, _, hb, by simpa using hj⟩⟩⟩
theorem SV.nil (G : Im) (H : Hp) : SV G H (.slice none 0 0) 0 [] := ⟨none, 0, rfl, Nat.le_refl _, by simp [maxLen], .inl ⟨rfl, fun _ => rfl⟩⟩
theorem mem_cons_of {x : Nat × Obj} : ∀ p, p ∈ H → p ∈ x :: H := fun p hp => List.mem_cons_of_mem _ hp

/-! ### States and what follows -/
def Holds (n : Nat) (ds : List Deferred) (w0 : World) (env : Env) (G : Im) (H : Hp) (R : Act → World → Prop) : Prop := ∀ a w, TT a n ds env → Sat w0 w G H → R a w
def HoldsW (n : Nat) (ds : List Deferred) (env : Env) (w : World) (R : Act → World → Prop) : Prop := ∀ a, TT a n ds env → R a w

section rules
variable {n : Nat} {ds : List Deferred} {env : Env} {P : Program} {Q : Exit → Act → World → Prop} {R : Act → World → Prop}

theorem Holds.atw (h : Holds n ds w0 env G H R) (hs : Sat w0 w G H) : HoldsW n ds env w R := fun a ht => h a w ht hs

theorem c_env (env' : Env) (he : Env.sub env env') (h : Holds n ds w0 env' G H R) : Holds n ds w0 env G H R := fun a w ht hs => h a w (ht.mono (Env.sub_spec he)) hs
theorem c_heap (K : Hp) {R' : Hp} (hsp : Split H K R') (h : Holds n ds w0 env G K R) : Holds n ds w0 env G H R := fun a w ht hs => h a w ht (hs.only hsp)
theorem c_freeze {b : Nat} {o : Obj} {H' : Hp} (hp : Pick b o H H') (h : ∀ G', Im.le G G' → G' b = some o → Holds n ds w0 env G' H' R) : Holds n ds w0 env G H R := fun a w ht hs => by
  have hs' := hs.perm hp.perm
  exact h _ (Im.le_add (hs'.sep _ (List.mem_cons_self ..))) (Im.add_self G b o) a w ht hs'.freeze

theorem c_seq {x y : Code} (h : Holds n ds w0 env G H (x.wp P (Exit.then (y.wp P Q) Q))) : Holds n ds w0 env G H ((Code.seq x y).wp P Q) := fun a w ht hs => wp_seq (h a w ht hs)
theorem c_skip (h : Holds n ds w0 env G H (Q .normal)) : Holds n ds w0 env G H (Code.skip.wp P Q) := fun a w ht hs => wp_skip (h a w ht hs)
theorem c_ret (h : Holds n ds w0 env G H (Q .ret)) : Holds n ds w0 env G H (Code.ret.wp P Q) := fun a w ht hs => wp_ret (h a w ht hs)
theorem c_exit {id : Nat} (h : Holds n ds w0 env G H (Q (.exit id))) : Holds n ds w0 env G H ((Code.exit id).wp P Q) := fun a w ht hs => wp_exit (h a w ht hs)
theorem c_block {id : Nat} {c : Code} (h : Holds n ds w0 env G H (c.wp P (Exit.inBlock id Q))) : Holds n ds w0 env G H ((Code.block id c).wp P Q) := fun a w ht hs => wp_block (h a w ht hs)
theorem c_region {id : Nat} {l : List Oper} (h : Holds n ds w0 env G H (wpList P l.toArray Q l)) : Holds n ds w0 env G H ((Code.region id l.toArray false).wp P Q) := fun a w ht hs => wp_region_lit (h a w ht hs)
theorem c_nil {ops : Array Oper} (h : Holds n ds w0 env G H (Q .normal)) : Holds n ds w0 env G H (wpList P ops Q []) := fun a w ht hs => wpList_nil (h a w ht hs)
theorem c_cond {c : Operand} {x y : Code} {β : Bool} (hc : ev env c = some (.bool β)) (h1 : β = true → Holds n ds w0 env G H (x.wp P Q)) (h2 : β = false → Holds n ds w0 env G H (y.wp P Q)) : Holds n ds w0 env G H ((Code.cond c x y).wp P Q) :=
  fun a w ht hs => wp_cond_split (ht.eval hc) (fun e => h1 e a w ht hs) (fun e => h2 e a w ht hs)
theorem c_cond_t {c : Operand} {x y : Code} (hc : ev env c = some (.bool true)) (h1 : Holds n ds w0 env G H (x.wp P Q)) : Holds n ds w0 env G H ((Code.cond c x y).wp P Q) :=
  fun a w ht hs => wp_cond_true (ht.eval hc) (h1 a w ht hs)
theorem c_cond_f {c : Operand} {x y : Code} (hc : ev env c = some (.bool false)) (h1 : Holds n ds w0 env G H (y.wp P Q)) : Holds n ds w0 env G H ((Code.cond c x y).wp P Q) :=
  fun a w ht hs => wp_cond_false (ht.eval hc) (h1 a w ht hs)

/-! exits -/
theorem x_then {nx : Act → World → Prop} (h : Holds n ds w0 env G H nx) : Holds n ds w0 env G H (Exit.then nx Q .normal) := h
theorem x_then_exit {nx : Act → World → Prop} {id : Nat} (h : Holds n ds w0 env G H (Q (.exit id))) : Holds n ds w0 env G H (Exit.then nx Q (.exit id)) := h
theorem x_then_ret {nx : Act → World → Prop} (h : Holds n ds w0 env G H (Q .ret)) : Holds n ds w0 env G H (Exit.then nx Q .ret) := h
theorem x_then_panic {nx : Act → World → Prop} {ch : List PanicEntry} (h : Holds n ds w0 env G H (Q (.panic ch))) : Holds n ds w0 env G H (Exit.then nx Q (.panic ch)) := h
theorem x_block {id : Nat} (h : Holds n ds w0 env G H (Q .normal)) : Holds n ds w0 env G H (Exit.inBlock id Q .normal) := h
theorem x_block_ret {id : Nat} (h : Holds n ds w0 env G H (Q .ret)) : Holds n ds w0 env G H (Exit.inBlock id Q .ret) := h
theorem x_block_panic {id : Nat} {ch : List PanicEntry} (h : Holds n ds w0 env G H (Q (.panic ch))) : Holds n ds w0 env G H (Exit.inBlock id Q (.panic ch)) := h
theorem x_block_eq {id : Nat} (h : Holds n ds w0 env G H (Q .normal)) : Holds n ds w0 env G H (Exit.inBlock id Q (.exit id)) := fun a w ht hs => by
  simp only [Exit.inBlock, if_true]; exact h a w ht hs
theorem x_block_ne {id id' : Nat} (hne : (id' == id) = false) (h : Holds n ds w0 env G H (Q (.exit id'))) : Holds n ds w0 env G H (Exit.inBlock id Q (.exit id')) := fun a w ht hs => by
  have : ¬ id' = id := by simpa using hne
  simp only [Exit.inBlock, if_neg this]; exact h a w ht hs

/-- A loop: at each head the slots and the heap are as 'env' and 'hp' say of some x, at which 'inv' holds; each round lowers 'mu'. -/
theorem c_loop {α : Type} {c : Code} (env' : α → Env) (G' : α → Im) (H' : α → Hp) (inv : α → Prop) (mu : α → Nat) (x0 : α) (h0 : inv x0)
    (start : Holds n ds w0 env G H (fun a w => TT a n ds (env' x0) ∧ Sat w0 w (G' x0) (H' x0)))
    (round : ∀ x, inv x → Holds n ds w0 (env' x) (G' x) (H' x) (c.wp P (Exit.then (fun a w => ∃ y, inv y ∧ mu y < mu x ∧ TT a n ds (env' y) ∧ Sat w0 w (G' y) (H' y)) Q))) :
    Holds n ds w0 env G H ((Code.loop c).wp P Q) := by
  intro a w ht hs b k cs
  have key : ∀ m x, mu x = m → inv x → ∀ a w, TT a n ds (env' x) → Sat w0 w (G' x) (H' x) →
      ∃ e a' w', Q e a' w' ∧ Arrives P (lone (b.at a (.code c :: .inLoop c :: k)) cs w) b k cs e a' w' := by
    intro m
    induction m using Nat.strongRecOn with
    | _ m ih =>
      intro x hm hx a w ht hs
      obtain ⟨e, a₁, w₁, hq, harr⟩ := round x hx a w ht hs b (.inLoop c :: k) cs
      cases e with
      | normal =>
        obtain ⟨y, hy, hlt, ht1, hs1⟩ := hq
        obtain ⟨e₂, a₂, w₂, hq₂, harr₂⟩ := ih (mu y) (hm ▸ hlt) y rfl hy a₁ w₁ ht1 hs1
        exact ⟨e₂, a₂, w₂, hq₂, .of_steps (Steps.trans harr (.one step_inLoop)) harr₂⟩
      | exit id => exact ⟨_, a₁, w₁, hq, .pass (x := .inLoop c) rfl (fun _ _ => .inl (by simp)) harr⟩
      | goto l => exact ⟨_, a₁, w₁, hq, .pass (x := .inLoop c) rfl (fun _ _ => .inl (by simp)) harr⟩
      | ret => exact ⟨_, a₁, w₁, hq, .pass (x := .inLoop c) rfl (fun _ _ => .inl (by simp)) harr⟩
      | panic ch => exact ⟨_, a₁, w₁, hq, .pass (x := .inLoop c) rfl (fun _ _ => .inl (by simp)) harr⟩
      | outgrown => exact ⟨_, a₁, w₁, hq, .pass (x := .inLoop c) rfl (fun _ _ => .inl (by simp)) harr⟩
  obtain ⟨ht1, hs1⟩ := start a w ht hs
  obtain ⟨e, a', w', hq, harr⟩ := key _ x0 rfl h0 a w ht1 hs1
  exact ⟨e, a', w', hq, .of_steps (.one step_loop) harr⟩
end rules
/-! ### The walk's steps, tried one after the other -/
/-- What is left to show (wrapped, so that omega does not look at it). -/
structure Wr (T : Prop) : Prop where
  out : T
theorem ww {S T : Prop} (k : T) (h : Wr T → S := by (intro k; (repeat (first | (refine c_cons ?_; first | refine s_val (by first | exact v_move rfl | exact v_assign rfl | exact v_len rfl (by kernel_rfl) | exact v_lss rfl rfl | exact v_neq rfl rfl | exact v_eql rfl rfl | exact v_gtr rfl rfl | exact v_leq rfl rfl | exact v_geq rfl rfl | exact v_add rfl rfl (by omega) | exact v_sub rfl rfl (by omega) | exact v_not rfl | exact v_pick_t rfl rfl | exact v_pick_f rfl rfl | exact v_xor8 rfl rfl | exact v_makeFunc rfl rfl | exact v_extract rfl rfl | exact v_nilCheck rfl | exact v_max rfl rfl | exact v_min rfl rfl | exact v_eqb_same rfl rfl (by kernel_rfl) | exact v_eqb rfl rfl (by kernel_rfl) | exact v_u8int rfl (by kernel_rfl) (by kernel_rfl) | exact v_eqnilP rfl rfl (by kernel_rfl) | exact v_neqnilP rfl rfl (by kernel_rfl) | exact v_eqnilS rfl rfl (by kernel_rfl)) rfl rfl rfl ?_ | refine s_skip rfl rfl rfl ?_ | refine s_skip0 rfl rfl ?_) | refine c_nil ?_ | refine c_seq ?_ | refine c_region ?_ | refine c_block ?_ | refine c_skip ?_ | refine c_exit ?_ | refine c_ret ?_ | refine x_then ?_ | refine x_block ?_ | refine x_then_exit ?_ | refine x_then_ret ?_ | refine x_block_ret ?_ | refine x_block_eq ?_ | refine x_block_ne rfl ?_)); exact k.out)) : S := h ⟨k⟩
theorem wn {S T : Prop} (k : T) (h : Wr T → S := by (intro k; (repeat (first | (refine c_cons ?_; first | refine s_val (by first | exact v_move rfl | exact v_assign rfl | exact v_len rfl (by kernel_rfl) | exact v_lss rfl rfl | exact v_neq rfl rfl | exact v_eql rfl rfl | exact v_gtr rfl rfl | exact v_leq rfl rfl | exact v_geq rfl rfl | exact v_add rfl rfl (by omega) | exact v_sub rfl rfl (by omega) | exact v_not rfl | exact v_pick_t rfl rfl | exact v_pick_f rfl rfl | exact v_xor8 rfl rfl | exact v_makeFunc rfl rfl | exact v_extract rfl rfl | exact v_nilCheck rfl | exact v_max rfl rfl | exact v_min rfl rfl | exact v_eqb_same rfl rfl (by kernel_rfl) | exact v_eqb rfl rfl (by kernel_rfl) | exact v_u8int rfl (by kernel_rfl) (by kernel_rfl) | exact v_eqnilP rfl rfl (by kernel_rfl) | exact v_neqnilP rfl rfl (by kernel_rfl) | exact v_eqnilS rfl rfl (by kernel_rfl)) rfl rfl rfl ?_ | refine s_skip rfl rfl rfl ?_ | refine s_skip0 rfl rfl ?_) | refine c_nil ?_ | refine c_region ?_ | refine c_block ?_ | refine c_skip ?_ | refine c_exit ?_ | refine c_ret ?_ | refine x_then ?_ | refine x_block ?_ | refine x_then_exit ?_ | refine x_then_ret ?_ | refine x_block_ret ?_ | refine x_block_eq ?_ | refine x_block_ne rfl ?_)); exact k.out)) : S := h ⟨k⟩
theorem we {S T : Prop} (k : T) (h : Wr T → S := by (intro k; (repeat (first | (refine c_cons ?_; first | refine s_val (by first | exact v_eql_same rfl rfl | exact v_move rfl | exact v_assign rfl | exact v_len rfl (by kernel_rfl) | exact v_lss rfl rfl | exact v_neq rfl rfl | exact v_eql rfl rfl | exact v_gtr rfl rfl | exact v_leq rfl rfl | exact v_geq rfl rfl | exact v_add rfl rfl (by omega) | exact v_sub rfl rfl (by omega) | exact v_not rfl | exact v_pick_t rfl rfl | exact v_pick_f rfl rfl | exact v_xor8 rfl rfl | exact v_makeFunc rfl rfl | exact v_extract rfl rfl | exact v_nilCheck rfl | exact v_max rfl rfl | exact v_min rfl rfl | exact v_eqb_same rfl rfl (by kernel_rfl) | exact v_eqb rfl rfl (by kernel_rfl) | exact v_u8int rfl (by kernel_rfl) (by kernel_rfl) | exact v_eqnilP rfl rfl (by kernel_rfl) | exact v_neqnilP rfl rfl (by kernel_rfl) | exact v_eqnilS rfl rfl (by kernel_rfl)) rfl rfl rfl ?_ | refine s_skip rfl rfl rfl ?_ | refine s_skip0 rfl rfl ?_) | refine c_nil ?_ | refine c_seq ?_ | refine c_region ?_ | refine c_block ?_ | refine c_skip ?_ | refine c_exit ?_ | refine c_ret ?_ | refine x_then ?_ | refine x_block ?_ | refine x_then_exit ?_ | refine x_then_ret ?_ | refine x_block_ret ?_ | refine x_block_eq ?_ | refine x_block_ne rfl ?_)); exact k.out)) : S := h ⟨k⟩
theorem wi {S T : Prop} (k : T) (h : Wr T → S := by (intro k; (repeat (first | (refine i_cons ?_; first | refine i_val (v_move rfl) rfl rfl rfl rfl ?_ | refine i_val (v_assign rfl) rfl rfl rfl rfl ?_ | refine i_val (v_len rfl (by kernel_rfl)) rfl rfl rfl rfl ?_ | refine i_val (v_lss rfl rfl) rfl rfl rfl rfl ?_ | refine i_val (v_neq rfl rfl) rfl rfl rfl rfl ?_ | refine i_val (v_eql rfl rfl) rfl rfl rfl rfl ?_ | refine i_val (v_gtr rfl rfl) rfl rfl rfl rfl ?_ | refine i_val (v_leq rfl rfl) rfl rfl rfl rfl ?_ | refine i_val (v_geq rfl rfl) rfl rfl rfl rfl ?_ | refine i_val (v_add rfl rfl (by omega)) rfl rfl rfl rfl ?_ | refine i_val (v_sub rfl rfl (by omega)) rfl rfl rfl rfl ?_ | refine i_val (v_not rfl) rfl rfl rfl rfl ?_ | refine i_val (v_pick_t rfl rfl) rfl rfl rfl rfl ?_ | refine i_val (v_pick_f rfl rfl) rfl rfl rfl rfl ?_ | refine i_val (v_xor8 rfl rfl) rfl rfl rfl rfl ?_ | refine i_val (v_makeFunc rfl rfl) rfl rfl rfl rfl ?_ | refine i_val (v_extract rfl rfl) rfl rfl rfl rfl ?_ | refine i_val (v_nilCheck rfl) rfl rfl rfl rfl ?_ | refine i_val (v_max rfl rfl) rfl rfl rfl rfl ?_ | refine i_val (v_min rfl rfl) rfl rfl rfl rfl ?_ | refine i_val (v_eqb_same rfl rfl (by kernel_rfl)) rfl rfl rfl rfl ?_ | refine i_val (v_eqb rfl rfl (by kernel_rfl)) rfl rfl rfl rfl ?_ | refine i_val (v_u8int rfl (by kernel_rfl) (by kernel_rfl)) rfl rfl rfl rfl ?_ | refine i_val (v_eqnilP rfl rfl (by kernel_rfl)) rfl rfl rfl rfl ?_ | refine i_val (v_neqnilP rfl rfl (by kernel_rfl)) rfl rfl rfl rfl ?_ | refine i_val (v_eqnilS rfl rfl (by kernel_rfl)) rfl rfl rfl rfl ?_ | refine i_gskip rfl rfl rfl ?_ | refine i_gskip0 rfl rfl ?_) | refine i_nil ?_ | refine i_seq ?_ | refine i_region ?_ | refine i_block ?_ | refine i_skip ?_ | refine i_exit ?_ | refine i_ret ?_ | refine x_then ?_ | refine x_block ?_ | refine x_then_exit ?_ | refine x_then_ret ?_ | refine x_block_ret ?_ | refine x_block_eq ?_ | refine x_block_ne rfl ?_)); exact k.out)) : S := h ⟨k⟩
end

section
open Go
set_option linter.unusedVariables false
set_option linter.unusedSimpArgs false

abbrev Cs (L : List Value) (t : TypeId) : Obj := .cells L.toArray t (0, 0)
abbrev B8 (x : UInt8) : Value := .int .u8 (x.toNat : Int)
abbrev I64 (x : Int) : Value := .int .i64 x
abbrev Pt (b o : Nat) : Value := .pointer (some ⟨b, o, none⟩)
abbrev Sl (b o k c : Nat) : Value := .slice (some ⟨b, o, none⟩) k c

def aggB (P : Program) (t : TypeId) : Option Bool := (P.underlying t).map fun | .struct _ | .array _ _ => true | _ => false
def slB (P : Program) (t : TypeId) : Bool := match P.underlying t with
  | some (.slice _) => true
  | _ => false
theorem slB_spec {P : Program} {t : TypeId} (h : slB P t = true) : ∃ e, P.underlying t = some (.slice e) := by
  unfold slB at h; split at h
  · exact ⟨_, by assumption⟩
  · cases h
/-- Where a struct's field lies. -/
def offB (P : Program) (s : TypeId) (i : Nat) : Option Nat := match P.underlying s with
  | some (.struct fs) => match fs[i]? with
    | some f => match (P.info? f.type).map (·.size) with
      | some (_ + 1) => some f.offset
      | _ => none
    | none => none
  | _ => none
/-- How many cells an element of a slice has. -/
def elB (P : Program) (t : TypeId) : Option Nat := match P.underlying t with
  | some (.slice e) => (P.info? e).map (·.size)
  | _ => none
def szB (P : Program) (t : TypeId) : Option Nat := (P.info? t).map (·.size)

/-- What make wants to know of a slice's type. -/
def mkB (P : Program) (t : TypeId) : Option (TypeId × Value × Nat × Nat) := match P.underlying t with
  | some (.slice e) => match P.info? e with
    | some i => match i.zero with
      | some z => some (e, z, i.size, i.bytes)
      | none => none
    | none => none
  | _ => none
theorem mkB_spec {P : Program} {t e : TypeId} {z : Value} {s bs : Nat} (h : mkB P t = some (e, z, s, bs)) : ∃ i, P.underlying t = some (.slice e) ∧ P.info? e = some i ∧ i.zero = some z ∧ i.size = s ∧ i.bytes = bs := by
  unfold mkB at h
  split at h
  · rename_i e' hu
    split at h
    · rename_i i hi
      split at h
      · rename_i z' hz; cases h; exact ⟨i, hu, hi, hz, rfl, rfl⟩
      · cases h
    · cases h
  · cases h
theorem offB_spec {P : Program} {s : TypeId} {i off : Nat} (h : offB P s i = some off) : ∃ fs f sz, P.underlying s = some (.struct fs) ∧ fs[i]? = some f ∧ szB P f.type = some sz ∧ sz ≠ 0 ∧ off = f.offset := by
  unfold offB at h
  split at h
  · rename_i fs hu
    split at h
    · rename_i f hf
      split at h
      · rename_i k hk; cases h; exact ⟨fs, f, _, hu, hf, hk, by simp, rfl⟩
      · cases h
    · cases h
  · cases h
theorem elB_spec {P : Program} {t : TypeId} {sz : Nat} (h : elB P t = some sz) : ∃ e, P.underlying t = some (.slice e) ∧ szB P e = some sz := by
  unfold elB at h
  split at h
  · exact ⟨_, by assumption, h⟩
  · cases h
section
variable {P : Program} {w : World}
theorem run_isAgg' {t : TypeId} {β : Bool} (h : aggB P t = some β) : (isAgg t).run P w = .ok β w := by
  unfold aggB at h
  cases hu : P.underlying t with
  | none => simp [hu] at h
  | some d =>
    unfold isAgg
    rw [Sem.run_bind, run_underlying hu w]
    simp only [hu, Option.map_some, Option.some.injEq] at h
    subst h
    cases d <;> rfl
theorem run_sizeOf' {t : TypeId} {s : Nat} (h : szB P t = some s) : (sizeOf t).run P w = .ok s w := by
  unfold szB at h
  cases hi : P.info? t with
  | none => simp [hi] at h
  | some i =>
    have hs : i.size = s := by simpa [hi] using h
    simp [sizeOf, typeInfo, hi, hs]
end

theorem of_blt {a b : Nat} (h : Nat.blt a b = true) : a < b := by simpa using h
theorem addr_add (b o n : Nat) : Addr.add ⟨b, o, none⟩ n = ⟨b, o + n, none⟩ := Addr.add_lit b o n

variable {w0 w : World} {G G' : Im} {H H' R' : Hp}
variable {n : Nat} {ds : List Deferred} {env : Env} {P : Program} {Q : Exit → Act → World → Prop} {R : Act → World → Prop} {ops : Array Oper} {rest : List Oper} {K : Act → World → Prop}

/-- The guard of an operation, as far as the environment tells it. -/
def boolOf : Value → Option Bool
  | .bool b => some b
  | _ => none
def gOn (ops : Array Oper) (env : Env) (o : Oper) : Option Bool :=
  match o.guard with
  | none => some true
  | some (j, want) => match (ops[j]?).bind (·.dst) with
    | none => none
    | some d => match env.lookup d with
      | none => none
      | some v => some (boolOf v == some want)
theorem gOn_spec {o : Oper} {a : Act} {β : Bool} (ht : TT a n ds env) (h : gOn ops env o = some β) : Region.wanted o (yielded ops a.tmps) = β := by
  unfold gOn at h
  unfold Region.wanted
  cases hg : o.guard with
  | none => simp only [hg, Option.some.injEq] at h; simp [← h]
  | some jw =>
    obtain ⟨j, want⟩ := jw
    simp only [hg] at h
    cases hd : (ops[j]?).bind (·.dst) with
    | none => simp [hd] at h
    | some d =>
      simp only [hd] at h
      cases hl : env.lookup d with
      | none => simp [hl] at h
      | some v =>
        simp only [hl, Option.some.injEq] at h
        have := ht.get d v hl
        simp only [yielded, hd, Option.bind_some, this]
        rw [← h]
        cases v <;> rfl

/-- One operation of a list or region, and what follows. -/
def stepK (P : Program) (ops : Array Oper) (Q : Exit → Act → World → Prop) (o : Oper) (K : Act → World → Prop) (a : Act) (w : World) : Prop :=
  if Region.wanted o (yielded ops a.tmps) then o.wp P a w K Q ∨ (o.asks P a w ∧ LetsOut Q) else K (a.put o.dst undef) w
theorem c_cons {o : Oper} (h : Holds n ds w0 env G H (stepK P ops Q o (wpList P ops Q rest))) : Holds n ds w0 env G H (wpList P ops Q (o :: rest)) := fun a w ht hs => h a w ht hs

/-- In whatever state that is so, o yields v and does nothing else. -/
def Val (P : Program) (env : Env) (G : Im) (H : Hp) (o : Oper) (v : Value) : Prop :=
  ∀ (a : Act) (n : Nat) (ds : List Deferred) (w0 w : World), TT a n ds env → Sat w0 w G H → (execOp a.eval o).run P w = .ok (.value v) w

theorem s_val {o : Oper} {d : Nat} {v : Value} (hv : Val P env G H o v) (hg : gOn ops env o = some true) (hdst : o.dst = some d) (hd : Nat.blt d n = true)
    (k : Holds n ds w0 ((d, v) :: env) G H K) : Holds n ds w0 env G H (stepK P ops Q o K) := fun a w ht hs => by
  unfold stepK
  rw [gOn_spec ht hg, if_pos rfl]
  refine .inl ?_
  unfold Oper.wp
  rw [hv a n ds w0 w ht hs, Oper.upon_value, hdst]
  exact k _ w (ht.put (of_blt hd) v) hs

theorem s_skip {o : Oper} {d : Nat} (hg : gOn ops env o = some false) (hdst : o.dst = some d) (hd : Nat.blt d n = true)
    (k : Holds n ds w0 ((d, undef) :: env) G H K) : Holds n ds w0 env G H (stepK P ops Q o K) := fun a w ht hs => by
  unfold stepK
  rw [gOn_spec ht hg, if_neg (by simp), hdst]
  exact k _ w (ht.put (of_blt hd) undef) hs
theorem s_skip0 {o : Oper} (hg : gOn ops env o = some false) (hdst : o.dst = none)
    (k : Holds n ds w0 env G H K) : Holds n ds w0 env G H (stepK P ops Q o K) := fun a w ht hs => by
  unfold stepK
  rw [gOn_spec ht hg, if_neg (by simp), hdst]
  exact k _ w ht hs

/-- o yields some value and leaves some world, of which Φ holds. -/
def Eff (P : Program) (w0 : World) (env : Env) (G : Im) (H : Hp) (o : Oper) (Φ : Value → World → Prop) : Prop :=
  ∀ (a : Act) (n : Nat) (ds : List Deferred) (w : World), TT a n ds env → Sat w0 w G H → ∃ v w', (execOp a.eval o).run P w = .ok (.value v) w' ∧ Φ v w'
theorem s_eff {o : Oper} {d : Nat} {Φ : Value → World → Prop} (hg : gOn ops env o = some true) (hdst : o.dst = some d) (hd : Nat.blt d n = true) (he : Eff P w0 env G H o Φ)
    (k : ∀ v w', Φ v w' → HoldsW n ds ((d, v) :: env) w' K) : Holds n ds w0 env G H (stepK P ops Q o K) := fun a w ht hs => by
  unfold stepK
  rw [gOn_spec ht hg, if_pos rfl]
  refine .inl ?_
  obtain ⟨v, w', hr, hp⟩ := he a n ds w ht hs
  unfold Oper.wp
  rw [hr, Oper.upon_value, hdst]
  exact k v w' hp _ (ht.put (of_blt hd) v)
/-- A store. -/
def Eff0 (P : Program) (w0 : World) (env : Env) (G : Im) (H : Hp) (o : Oper) (Φ : World → Prop) : Prop :=
  ∀ (a : Act) (n : Nat) (ds : List Deferred) (w : World), TT a n ds env → Sat w0 w G H → ∃ w', (execOp a.eval o).run P w = .ok .skip w' ∧ Φ w'
theorem s_eff0 {o : Oper} {Φ : World → Prop} (hg : gOn ops env o = some true) (hdst : o.dst = none) (he : Eff0 P w0 env G H o Φ)
    (k : ∀ w', Φ w' → HoldsW n ds env w' K) : Holds n ds w0 env G H (stepK P ops Q o K) := fun a w ht hs => by
  unfold stepK
  rw [gOn_spec ht hg, if_pos rfl]
  refine .inl ?_
  obtain ⟨w', hr, hp⟩ := he a n ds w ht hs
  unfold Oper.wp
  rw [hr, Oper.upon_skip, hdst]
  exact k w' hp _ ht

/-! ### What yields a value and does nothing else -/
section vals
variable {dst : Option Tmp} {ty : TypeId} {pos : String} {aft : Array Edge} {g : Option (Nat × Bool)}

theorem v_move {x : Operand} {v : Value} (hx : ev env x = some v) : Val P env G H ⟨dst, .move x, ty, pos, aft, g⟩ v := fun a n ds w0 w ht hs => by
  simp [execOp, ht.eval hx]
theorem v_assign {x : Operand} {v : Value} (hx : ev env x = some v) : Val P env G H ⟨dst, .assign x, ty, pos, aft, g⟩ v := fun a n ds w0 w ht hs => by
  simp [execOp, ht.eval hx]
theorem v_pick_t {c x y : Operand} {v : Value} (hc : ev env c = some (.bool true)) (hx : ev env x = some v) : Val P env G H ⟨dst, .pick c x y, ty, pos, aft, g⟩ v := fun a n ds w0 w ht hs => by
  simp [execOp, ht.eval hx, ht.eval hc, asBool]
theorem v_pick_f {c x y : Operand} {v : Value} (hc : ev env c = some (.bool false)) (hy : ev env y = some v) : Val P env G H ⟨dst, .pick c x y, ty, pos, aft, g⟩ v := fun a n ds w0 w ht hs => by
  simp [execOp, ht.eval hy, ht.eval hc, asBool]
theorem v_len {x : Operand} {t : TypeId} {ad : Option Addr} {k c : Nat} (hx : ev env x = some (.slice ad k c)) (hu : slB P t = true) :
    Val P env G H ⟨dst, .call { callee := .builtin .len, args := #[x], argTypes := #[t] }, ty, pos, aft, g⟩ (I64 k) := fun a n ds w0 w ht hs => by
  obtain ⟨e, hu⟩ := slB_spec hu
  simp [execOp, resolve, invoke, builtin, Builtin.len_, ht.eval hx, run_underlying hu, goInt]
theorem v_not {x : Operand} {t : TypeId} {β : Bool} (hx : ev env x = some (.bool β)) : Val P env G H ⟨dst, .unOp .not t x, ty, pos, aft, g⟩ (.bool (!β)) := fun a n ds w0 w ht hs => by
  simp [execOp, Op.unary, ht.eval hx]
theorem v_makeFunc {fn : Fn} {f c : List Operand} {vf vc : List Value} (hf : evl env f = some vf) (hc : evl env c = some vc) :
    Val P env G H ⟨dst, .makeFunc fn f.toArray c.toArray, ty, pos, aft, g⟩ (.func fn vf.toArray vc.toArray) := fun a n ds w0 w ht hs => by
  simp [execOp, Instr.makeFunc, ht.evall hf, ht.evall hc]
theorem v_extract {x : Operand} {i : Nat} {vs : Array Value} {v : Value} (hx : ev env x = some (.tuple vs)) (hi : vs[i]? = some v) : Val P env G H ⟨dst, .extract x i, ty, pos, aft, g⟩ v := fun a n ds w0 w ht hs => by
  simp [execOp, Instr.extract, ht.eval hx, hi]
theorem v_nilCheck {x : Operand} {ad : Addr} (hx : ev env x = some (.pointer (some ad))) : Val P env G H ⟨dst, .nilCheck x, ty, pos, aft, g⟩ (.pointer (some ad)) := fun a n ds w0 w ht hs => by
  simp [execOp, ht.eval hx]

/-! integers -/
theorem v_add {x y : Operand} {t t' : TypeId} {p q : Int} (hx : ev env x = some (I64 p)) (hy : ev env y = some (I64 q)) (hr : -9223372036854775808 ≤ p + q ∧ p + q ≤ 9223372036854775807) :
    Val P env G H ⟨dst, .binOp .add t x y t', ty, pos, aft, g⟩ (I64 (p + q)) := fun a n ds w0 w ht hs => by
  simp [execOp, eqGuard, binOp, Op.intArith, ht.eval hx, ht.eval hy, IntWalk.i64_in _ hr]
theorem v_sub {x y : Operand} {t t' : TypeId} {p q : Int} (hx : ev env x = some (I64 p)) (hy : ev env y = some (I64 q)) (hr : -9223372036854775808 ≤ p - q ∧ p - q ≤ 9223372036854775807) :
    Val P env G H ⟨dst, .binOp .sub t x y t', ty, pos, aft, g⟩ (I64 (p - q)) := fun a n ds w0 w ht hs => by
  simp [execOp, eqGuard, binOp, Op.intArith, ht.eval hx, ht.eval hy, IntWalk.i64_in _ hr]
theorem v_mul {x y : Operand} {t t' : TypeId} {p q : Int} (hx : ev env x = some (I64 p)) (hy : ev env y = some (I64 q)) (hr : -9223372036854775808 ≤ p * q ∧ p * q ≤ 9223372036854775807) :
    Val P env G H ⟨dst, .binOp .mul t x y t', ty, pos, aft, g⟩ (I64 (p * q)) := fun a n ds w0 w ht hs => by
  simp [execOp, eqGuard, binOp, Op.intArith, ht.eval hx, ht.eval hy, IntWalk.i64_in _ hr]
theorem v_rem {x y : Operand} {t t' : TypeId} {p q : Int} (hx : ev env x = some (I64 p)) (hy : ev env y = some (I64 q)) (hp : 0 ≤ p) (hq : 0 < q) :
    Val P env G H ⟨dst, .binOp .rem t x y t', ty, pos, aft, g⟩ (I64 (p % q)) := fun a n ds w0 w ht hs => by
  have h0 : ¬ q = 0 := by omega
  simp [execOp, eqGuard, binOp, Op.intDiv, ht.eval hx, ht.eval hy, h0, Int.tmod_eq_emod_of_nonneg hp]
theorem v_quo {x y : Operand} {t t' : TypeId} {p q : Int} (hx : ev env x = some (I64 p)) (hy : ev env y = some (I64 q)) (hp : 0 ≤ p ∧ p ≤ 9223372036854775807) (hq : 1 ≤ q) :
    Val P env G H ⟨dst, .binOp .quo t x y t', ty, pos, aft, g⟩ (I64 (p / q)) := fun a n ds w0 w ht hs => by
  have h0 : ¬ q = 0 := by omega
  simp [execOp, eqGuard, binOp, Op.intDiv, ht.eval hx, ht.eval hy, h0, IntWalk.i64_quo p q ⟨hp.1, hp.2, hq⟩]
theorem v_lss {x y : Operand} {t t' : TypeId} {k : IntKind} {p q : Int} (hx : ev env x = some (.int k p)) (hy : ev env y = some (.int k q)) :
    Val P env G H ⟨dst, .binOp .lss t x y t', ty, pos, aft, g⟩ (.bool (decide (p < q))) := fun a n ds w0 w ht hs => by
  simp [execOp, eqGuard, binOp, Op.intCmp, ht.eval hx, ht.eval hy]
theorem v_leq {x y : Operand} {t t' : TypeId} {k : IntKind} {p q : Int} (hx : ev env x = some (.int k p)) (hy : ev env y = some (.int k q)) :
    Val P env G H ⟨dst, .binOp .leq t x y t', ty, pos, aft, g⟩ (.bool (decide (p ≤ q))) := fun a n ds w0 w ht hs => by
  simp [execOp, eqGuard, binOp, Op.intCmp, ht.eval hx, ht.eval hy]
theorem v_gtr {x y : Operand} {t t' : TypeId} {k : IntKind} {p q : Int} (hx : ev env x = some (.int k p)) (hy : ev env y = some (.int k q)) :
    Val P env G H ⟨dst, .binOp .gtr t x y t', ty, pos, aft, g⟩ (.bool (decide (q < p))) := fun a n ds w0 w ht hs => by
  simp [execOp, eqGuard, binOp, Op.intCmp, ht.eval hx, ht.eval hy]
theorem v_geq {x y : Operand} {t t' : TypeId} {k : IntKind} {p q : Int} (hx : ev env x = some (.int k p)) (hy : ev env y = some (.int k q)) :
    Val P env G H ⟨dst, .binOp .geq t x y t', ty, pos, aft, g⟩ (.bool (decide (q ≤ p))) := fun a n ds w0 w ht hs => by
  simp [execOp, eqGuard, binOp, Op.intCmp, ht.eval hx, ht.eval hy]
theorem int_beq (p q : Int) : (p == q) = decide (p = q) := by by_cases h : p = q <;> simp [h]
theorem int_bne (p q : Int) : (p != q) = decide (¬ p = q) := by by_cases h : p = q <;> simp [h]
theorem v_eql {x y : Operand} {t t' : TypeId} {k : IntKind} {p q : Int} (hx : ev env x = some (.int k p)) (hy : ev env y = some (.int k q)) :
    Val P env G H ⟨dst, .binOp .eql t x y t', ty, pos, aft, g⟩ (.bool (decide (p = q))) := fun a n ds w0 w ht hs => by
  simp [execOp, eqGuard, binOp, Op.intCmp, ht.eval hx, ht.eval hy, int_beq]
theorem v_neq {x y : Operand} {t t' : TypeId} {k : IntKind} {p q : Int} (hx : ev env x = some (.int k p)) (hy : ev env y = some (.int k q)) :
    Val P env G H ⟨dst, .binOp .neq t x y t', ty, pos, aft, g⟩ (.bool (decide (¬ p = q))) := fun a n ds w0 w ht hs => by
  simp [execOp, eqGuard, binOp, Op.intCmp, ht.eval hx, ht.eval hy, int_bne]
theorem v_xor8 {x y : Operand} {t t' : TypeId} {p q : UInt8} (hx : ev env x = some (B8 p)) (hy : ev env y = some (B8 q)) :
    Val P env G H ⟨dst, .binOp .xor t x y t', ty, pos, aft, g⟩ (B8 (p ^^^ q)) := fun a n ds w0 w ht hs => by
  have h1 := u8_xor_nat p.toNat q.toNat p.toNat_lt q.toNat_lt
  have h2 : (binOp .xor t (B8 p) (B8 q)).run P w = .ok (.int .u8 (bits .xor .u8 (p.toNat : Int) (q.toNat : Int))) w := by
    simp [binOp, Op.intBits, bits]
  simp [execOp, eqGuard, ht.eval hx, ht.eval hy, h2, h1]
theorem v_toInt {x : Operand} {s t : TypeId} {k k' : IntKind} {p : Int} (hx : ev env x = some (.int k' p)) (hs : ∃ d, P.underlying s = some d) (ht' : P.underlying t = some (.int k)) (hr : k.wrap p = p) :
    Val P env G H ⟨dst, .convert s t x, ty, pos, aft, g⟩ (.int k p) := fun a n ds w0 w ht hs' => by
  obtain ⟨d, hd⟩ := hs
  simp only [execOp, ht.eval hx]
  cases d <;> simp [convert, run_underlying hd, run_underlying ht', Conv.intToInt, hr]

theorem v_max {x y : Operand} {ts : Array TypeId} {p q : Int} (hx : ev env x = some (I64 p)) (hy : ev env y = some (I64 q)) :
    Val P env G H ⟨dst, .call { callee := .builtin .max, args := #[x, y], argTypes := ts }, ty, pos, aft, g⟩ (I64 (max p q)) := fun a n ds w0 w ht hs => by
  have : max p q = if p < q then q else p := by omega
  simp [execOp, resolve, invoke, builtin, Builtin.max_, Builtin.max2, ht.eval hx, ht.eval hy, this]
theorem v_min {x y : Operand} {ts : Array TypeId} {p q : Int} (hx : ev env x = some (I64 p)) (hy : ev env y = some (I64 q)) :
    Val P env G H ⟨dst, .call { callee := .builtin .min, args := #[x, y], argTypes := ts }, ty, pos, aft, g⟩ (I64 (min p q)) := fun a n ds w0 w ht hs => by
  have : min p q = if q < p then q else p := by omega
  simp [execOp, resolve, invoke, builtin, Builtin.min_, Builtin.min2, ht.eval hx, ht.eval hy, this]

/-! a slice of a slice -/
theorem run_sliceBound {v : Value} {i y : Nat} {code : BoundsCode} (hv : v = I64 (i : Int)) (h : i ≤ y) : (Instr.sliceBound v y code).run P w = .ok i w := by
  subst hv
  have h1 : (0 : Int) ≤ (i : Int) := by omega
  have h2 : (i : Int) ≤ (y : Int) := by omega
  simp [Instr.sliceBound, asIntOf, h1, h2]
/-- s[:i:i] -/
theorem v_slice0 (i : Nat) {x hi mx : Operand} {t : TypeId} {b o k c : Nat} (hx : ev env x = some (Sl b o k c)) (hh : ev env hi = some (I64 (i : Int))) (hm : ev env mx = some (I64 (i : Int))) (hu : (elB P t).isSome = true) (hl : i ≤ c) :
    Val P env G H ⟨dst, .slice t x none (some hi) (some mx), ty, pos, aft, g⟩ (Sl b o i i) := fun a n ds w0 w ht hs => by
  obtain ⟨sz, hu⟩ := Option.isSome_iff_exists.1 hu
  obtain ⟨e, hu, hz⟩ := elB_spec hu
  have h0 : (if i = 0 then (some ⟨b, o, none⟩ : Option Addr) else some ⟨b, o, none⟩) = some ⟨b, o, none⟩ := by split <;> rfl
  simp [execOp, Instr.sliceAt, Instr.slice, Instr.sliceBounds, ht.eval hx, ht.eval hh, ht.eval hm, run_underlying hu, run_sliceBound rfl hl, run_sliceBound rfl (Nat.le_refl i), run_sizeOf' hz, addr_add, h0]

/-! memory that is read -/
theorem v_field (off : Nat) {x : Operand} {s : TypeId} {i : Nat} {b o : Nat} (hx : ev env x = some (Pt b o)) (hu : offB P s i = some off) : Val P env G H ⟨dst, .fieldAddr s x i, ty, pos, aft, g⟩ (Pt b (o + off)) := fun a n ds w0 w ht hs => by
  obtain ⟨fs, f, sz, hu1, hf, hz, hnz, rfl⟩ := offB_spec hu
  simp [execOp, Instr.fieldAt, run_underlying hu1, hf, Instr.sureAddr, ht.eval hx, fieldPlace, run_sizeOf' hz, hnz, addr_add]
theorem v_index (sz : Nat) {x i : Operand} {t : TypeId} {b o k c : Nat} {p : Int} (hx : ev env x = some (Sl b o k c)) (hi : ev env i = some (I64 p)) (hu : elB P t = some sz)
    (hp : 0 ≤ p ∧ p < k) : Val P env G H ⟨dst, .indexAddr t x i, ty, pos, aft, g⟩ (Pt b (o + p.toNat * sz)) := fun a n ds w0 w ht hs => by
  obtain ⟨e, hu1, hz⟩ := elB_spec hu
  simp [execOp, Instr.indexAt, asIntOf, ht.eval hx, ht.eval hi, run_underlying hu1, hp.1, hp.2, run_sizeOf' hz, addr_add]
theorem v_index1 {x i : Operand} {t : TypeId} {b o k c : Nat} {p : Int} (hx : ev env x = some (Sl b o k c)) (hi : ev env i = some (I64 p)) (hu : elB P t = some 1)
    (hp : 0 ≤ p ∧ p < k) : Val P env G H ⟨dst, .indexAddr t x i, ty, pos, aft, g⟩ (Pt b (o + p.toNat)) := by
  have := v_index (P := P) (env := env) (G := G) (H := H) (dst := dst) (ty := ty) (pos := pos) (aft := aft) (g := g) 1 hx hi hu hp
  rwa [Nat.mul_one] at this
theorem v_load {x : Operand} {t : TypeId} {b o : Nat} {v : Value} (hx : ev env x = some (Pt b o)) (hc : Cel G H b o v) (ha : aggB P t = some false) :
    Val P env G H ⟨dst, .load t x, ty, pos, aft, g⟩ v := fun a n ds w0 w ht hs => by
  simp [execOp, Instr.loadAt, Instr.sureAddr, ht.eval hx, loadVar, run_isAgg' ha, hc.cell hs]
theorem v_loadAgg {x : Operand} {t : TypeId} {b o sz : Nat} {vs : List Value} (hx : ev env x = some (Pt b o)) (ha : aggB P t = some true) (hz : szB P t = some sz) (hl : vs.length = sz)
    (hc : ∀ (j : Nat) u, vs[j]? = some u → Cel G H b (o + j) u) : Val P env G H ⟨dst, .load t x, ty, pos, aft, g⟩ (.agg vs.toArray) := fun a n ds w0 w ht hs => by
  have hcs : (loadCells ⟨b, o, none⟩ vs.length).run P w = .ok vs.toArray w := run_loadCells_list (P := P) w ⟨b, o, none⟩ vs (fun j v hj => by
    rw [addr_add]; exact (hc j v hj).cell hs)
  simp [execOp, Instr.loadAt, Instr.sureAddr, ht.eval hx, loadVar, run_isAgg' ha, run_sizeOf' hz, ← hl, hcs]
end vals

/-! ### Memory that is made and written -/
section effs
variable {dst : Option Tmp} {d : Nat} {ty : TypeId} {pos : String} {aft : Array Edge} {g : Option (Nat × Bool)}

theorem e_box {t : TypeId} {x : Operand} {v : Value} (hx : ev env x = some v) : Eff P w0 env G H ⟨some d, .box t x, ty, pos, aft, g⟩ (fun u w' => ∃ b, u = Pt b 0 ∧ Sat w0 w' G ((b, Cs v.cells.toList t) :: H)) :=
    (fun a n ds w ht hs => ⟨Pt w.heap.size 0, w.alloc (Cs v.cells.toList t), by simp [execOp, Instr.box, newVar, newRow, ht.eval hx], _, rfl, hs.alloc (Cs v.cells.toList t)⟩)
theorem s_box {t : TypeId} {x : Operand} {v : Value} (hg : gOn ops env ⟨some d, .box t x, ty, pos, aft, g⟩ = some true) (hd : Nat.blt d n = true) (hx : ev env x = some v)
    (k : ∀ b, Holds n ds w0 ((d, Pt b 0) :: env) G ((b, Cs v.cells.toList t) :: H) K) :
    Holds n ds w0 env G H (stepK P ops Q ⟨some d, .box t x, ty, pos, aft, g⟩ K) :=
  s_eff hg rfl hd (e_box hx) (fun u w' ⟨b, hu, hs⟩ => by subst hu; exact (k b).atw hs)

theorem e_store {t t' : TypeId} {x y : Operand} {b o : Nat} {v : Value} {L : List Value} {H1 : Hp}
    (hx : ev env x = some (Pt b o)) (hy : ev env y = some v) (hp : Pick b (Cs L t') H H1) (hz : szB P t = some v.cells.size) (h1 : ∀ u ∈ v.cells.toList, u.oneCell' = true) (hl : o + v.cells.size ≤ L.length) :
    Eff0 P w0 env G H ⟨none, .store t x y, ty, pos, aft, g⟩ (fun w' => Sat w0 w' G ((b, Cs (L.take o ++ v.cells.toList ++ L.drop (o + v.cells.size)) t') :: H1)) :=
    (fun a n ds w ht hs => by
      have hs' := hs.perm hp.perm
      have hb : w.heap[b]? = some (.cells L.toArray t' (0, 0)) := hs'.own _ (List.mem_cons_self ..)
      have hst := run_storeCells_at (P := P) b o t' v.cells.toList 0 L.toArray w hb (by simpa using hl) h1
      refine ⟨w.setRow b (L.take o ++ v.cells.toList ++ L.drop (o + v.cells.size)).toArray, ?_, hs'.upd rfl rfl rfl (by simp) (setRow_heap w b _ _ t' (0, 0) hb) (fun j _ hj => setRow_other w b j _ hj)⟩
      simp only [Nat.add_zero, Array.length_toList] at hst
      simp [execOp, Instr.storeAt, Instr.sureAddr, ht.eval hx, ht.eval hy, storeVar, run_sizeOf' hz, hst])
theorem s_store {t t' : TypeId} {x y : Operand} {b o : Nat} {v : Value} {L : List Value} {H1 : Hp} (hg : gOn ops env ⟨none, .store t x y, ty, pos, aft, g⟩ = some true)
    (hx : ev env x = some (Pt b o)) (hy : ev env y = some v) (hp : Pick b (Cs L t') H H1) (hz : szB P t = some v.cells.size) (h1 : ∀ u ∈ v.cells.toList, u.oneCell' = true) (hl : o + v.cells.size ≤ L.length)
    (k : Holds n ds w0 env G ((b, Cs (L.take o ++ v.cells.toList ++ L.drop (o + v.cells.size)) t') :: H1) K) :
    Holds n ds w0 env G H (stepK P ops Q ⟨none, .store t x y, ty, pos, aft, g⟩ K) :=
  s_eff0 (Φ := fun w' => Sat w0 w' G ((b, Cs (L.take o ++ v.cells.toList ++ L.drop (o + v.cells.size)) t') :: H1)) hg rfl (e_store hx hy hp hz h1 hl) (fun w' hs => k.atw hs)
theorem take_set {α : Type} (L : List α) (o : Nat) (v : α) (h : o < L.length) : L.take o ++ [v] ++ L.drop (o + 1) = L.set o v := by
  rw [List.set_eq_take_append_cons_drop, if_pos h]; simp
theorem cells_one {v : Value} (h : v.oneCell' = true) : v.cells = #[v] := by cases v <;> first | rfl | (cases h)
/-- A store of one cell. -/
theorem e_store1 {t t' : TypeId} {x y : Operand} {b o : Nat} {v : Value} {L : List Value} {H1 : Hp}
    (hx : ev env x = some (Pt b o)) (hy : ev env y = some v) (hp : Pick b (Cs L t') H H1) (hz : szB P t = some 1) (h1 : v.oneCell' = true) (hl : o < L.length) :
    Eff0 P w0 env G H ⟨none, .store t x y, ty, pos, aft, g⟩ (fun w' => Sat w0 w' G ((b, Cs (L.set o v) t') :: H1)) := by
  have hc := cells_one h1
  have := e_store (P := P) (w0 := w0) (env := env) (G := G) (H := H) (ty := ty) (pos := pos) (aft := aft) (g := g) hx hy hp (by rw [hc]; exact hz) (by rw [hc]; intro u hu; rw [List.mem_singleton.1 hu]; exact h1) (by rw [hc]; simp; omega)
  rw [hc] at this
  have h2 : (#[v] : Array Value).toList = [v] := rfl
  have h3 : (#[v] : Array Value).size = 1 := rfl
  rw [h2, h3, take_set L o v hl] at this
  exact this
theorem s_store1 {t t' : TypeId} {x y : Operand} {b o : Nat} {v : Value} {L : List Value} {H1 : Hp} (hg : gOn ops env ⟨none, .store t x y, ty, pos, aft, g⟩ = some true)
    (hx : ev env x = some (Pt b o)) (hy : ev env y = some v) (hp : Pick b (Cs L t') H H1) (hz : szB P t = some 1) (h1 : v.oneCell' = true) (hl : o < L.length)
    (k : Holds n ds w0 env G ((b, Cs (L.set o v) t') :: H1) K) :
    Holds n ds w0 env G H (stepK P ops Q ⟨none, .store t x y, ty, pos, aft, g⟩ K) :=
  s_eff0 hg rfl (e_store1 hx hy hp hz h1 hl) (fun w' hs => k.atw hs)
theorem s_make (e : TypeId) (z : Value) (s bs k : Nat) {t : TypeId} {x y : Operand} (hg : gOn ops env ⟨some d, .makeSlice t x y, ty, pos, aft, g⟩ = some true) (hd : Nat.blt d n = true) (hx : ev env x = some (I64 (k : Int))) (hy : ev env y = some (I64 (k : Int)))
    (hm : mkB P t = some (e, z, s, bs)) (hb : bs * k ≤ 281474976710656) (hk : k ≤ 281474976710656)
    (hK : ∀ b, Holds n ds w0 ((d, Sl b 0 k k) :: env) G ((b, Cs (madeCells z.cells (k * s)).toList e) :: H) K) :
    Holds n ds w0 env G H (stepK P ops Q ⟨some d, .makeSlice t x y, ty, pos, aft, g⟩ K) := by
  obtain ⟨i, hu, hi, hz, rfl, rfl⟩ := mkB_spec hm
  refine s_eff (Φ := fun u w' => ∃ b, u = Sl b 0 k k ∧ Sat w0 w' G ((b, Cs (madeCells z.cells (k * i.size)).toList e) :: H)) hg rfl hd (fun a n ds w ht hs => ?_) (fun u w' ⟨b, hu, hs⟩ => by subst hu; exact (hK b).atw hs)
  have hr := run_make (P := P) w t e i z hu hi hz .i64 .i64 k k (by omega) (Int.le_refl _) (by omega) (by omega)
  simp only [Int.toNat_natCast] at hr
  exact ⟨_, w.alloc (.cells (madeCells z.cells (k * i.size)) e), by simp [execOp, ht.eval hx, ht.eval hy, hr], w.heap.size, rfl, by have := hs.alloc (.cells (madeCells z.cells (k * i.size)) e); simpa using this⟩
end effs

theorem c_cond_d {c : Operand} {x y : Code} {p : Prop} [Decidable p] (hc : ev env c = some (.bool (decide p))) (h1 : p → Holds n ds w0 env G H (x.wp P Q)) (h2 : ¬ p → Holds n ds w0 env G H (y.wp P Q)) : Holds n ds w0 env G H ((Code.cond c x y).wp P Q) :=
  c_cond hc (fun e => h1 (of_decide_eq_true e)) (fun e => h2 (of_decide_eq_false e))
theorem c_cond_nd {c : Operand} {x y : Code} {p : Prop} [Decidable p] (hc : ev env c = some (.bool (!decide p))) (h1 : ¬ p → Holds n ds w0 env G H (x.wp P Q)) (h2 : p → Holds n ds w0 env G H (y.wp P Q)) : Holds n ds w0 env G H ((Code.cond c x y).wp P Q) :=
  c_cond hc (fun e => h1 (by simpa using e)) (fun e => h2 (by simpa using e))
/-- At a Bool that is not known the state is parted. -/
theorem c_part (d : Nat) (β : Bool) (hd : env.lookup d = some (.bool β)) (h1 : β = true → Holds n ds w0 ((d, .bool true) :: env) G H R) (h2 : β = false → Holds n ds w0 ((d, .bool false) :: env) G H R) : Holds n ds w0 env G H R := fun a w ht hs => by
  have key : ∀ γ, β = γ → TT a n ds ((d, .bool γ) :: env) := fun γ e => ht.mono fun i v hv => by
    simp only [List.lookup] at hv
    split at hv
    · rename_i e'
      have e' : i = d := by simpa using e'
      cases hv; subst e'; rw [hd, e]
    · exact hv
  cases hb : β with
  | true => exact h1 hb a w (key _ hb) hs
  | false => exact h2 hb a w (key _ hb) hs
theorem c_part_d (d : Nat) (p : Prop) [Decidable p] (hd : env.lookup d = some (.bool (decide p))) (h1 : p → Holds n ds w0 ((d, .bool true) :: env) G H R) (h2 : ¬ p → Holds n ds w0 ((d, .bool false) :: env) G H R) : Holds n ds w0 env G H R :=
  c_part d _ hd (fun e => h1 (of_decide_eq_true e)) (fun e => h2 (of_decide_eq_false e))

/-! ### Calls -/
/-- What follows a call. -/
def After (n : Nat) (ds : List Deferred) (env : Env) (d : Option Tmp) (Q : Exit → Act → World → Prop) (nx : Act → World → Prop) : Ending → World → Prop
  | .returned v, w' => HoldsW n ds (match d with | some d => (d, v) :: env | none => env) w' nx
  | .panicked ch, w' => HoldsW n ds env w' (Q (.panic ch))
  | .outgrown, _ => LetsOut Q

/-- A function of the program's own, which has a body. -/
def entersB (P : Program) (f : FuncId) : Bool := match P.funcs[f]? with
  | none => false
  | some fn => fn.name != "runtime.NumGoroutine" && fn.body.isSome
theorem enters_run {f : FuncId} (h : entersB P f = true) (args : Array Value) : (callFunc f args).run P w = .ok (.enter f args) w := by
  unfold entersB at h
  cases hf : P.funcs[f]? with
  | none => simp [hf] at h
  | some fn =>
    simp only [hf, Bool.and_eq_true] at h
    have h1 : fn.name ≠ "runtime.NumGoroutine" := by simpa using h.1
    have h2 : ¬ fn.body = none := by intro hb; simp [hb] at h
    simp [callFunc, hf, h1, h2]

theorem s_callG {o : Oper} {fo : Operand} {xs : List Operand} {ts : Array TypeId} {f : FuncId} {vs : List Value} {cap : Array Value} {R : Ending → World → Prop} (hop : o.op = .call { callee := .value fo, args := xs.toArray, argTypes := ts })
    (hg : gOn ops env o = some true) (hd : ∀ d, o.dst = some d → d < n) (hf : ev env fo = some (.func (.func f) #[] cap)) (hxs : evl env xs = some vs) (hen : entersB P f = true)
    (hC : ∀ w, Sat w0 w G H → Calls P f (vs.toArray ++ cap) w R) (k : ∀ e w', R e w' → After n ds env o.dst Q K e w') :
    Holds n ds w0 env G H (stepK P ops Q o K) := fun a w ht hs => by
  unfold stepK
  rw [gOn_spec ht hg, if_pos rfl]
  refine .inl ?_
  unfold Oper.wp
  have hrun : (execOp a.eval o).run P w = .ok (.enter f (vs.toArray ++ cap)) w := by
    simp [execOp, hop, resolve, ht.eval hf, ht.evall hxs, Deferred.ofValue, invoke, enters_run hen]
  rw [hrun, Oper.upon_enter]
  refine (hC w hs).mono fun e w' hr => ?_
  have := k e w' hr
  cases e with
  | returned v =>
    simp only [After] at this ⊢
    cases hdst : o.dst with
    | none => rw [hdst] at this; exact this a ht
    | some d => rw [hdst] at this; exact this _ (ht.put (hd d hdst) v)
  | panicked ch => exact this a ht
  | outgrown => exact this
/-- What follows a call whose answer goes into a slot. -/
def AfterD (n : Nat) (ds : List Deferred) (env : Env) (d : Tmp) (Q : Exit → Act → World → Prop) (nx : Act → World → Prop) : Ending → World → Prop
  | .returned v, w' => HoldsW n ds ((d, v) :: env) w' nx
  | .panicked ch, w' => HoldsW n ds env w' (Q (.panic ch))
  | .outgrown, _ => LetsOut Q
theorem AfterD.after {d : Tmp} {o : Option Tmp} {nx : Act → World → Prop} {e : Ending} {w' : World} (ho : o = some d) (h : AfterD n ds env d Q nx e w') : After n ds env o Q nx e w' := by
  subst ho; cases e <;> exact h
theorem s_call {o : Oper} {d : Tmp} {fo : Operand} {xs : List Operand} {ts : Array TypeId} {f : FuncId} {vs : List Value} {cap : Array Value} {R : Ending → World → Prop} (hop : o.op = .call { callee := .value fo, args := xs.toArray, argTypes := ts })
    (hg : gOn ops env o = some true) (hd : o.dst = some d) (hlt : Nat.blt d n = true) (hf : ev env fo = some (.func (.func f) #[] cap)) (hxs : evl env xs = some vs) (hen : entersB P f = true)
    (hC : ∀ w, Sat w0 w G H → Calls P f (vs.toArray ++ cap) w R) (k : ∀ e w', R e w' → AfterD n ds env d Q K e w') :
    Holds n ds w0 env G H (stepK P ops Q o K) :=
  s_callG hop hg (fun d' h => by rw [hd] at h; cases h; exact of_blt hlt) hf hxs hen hC (fun e w' hr => (k e w' hr).after hd)
theorem s_call0 {o : Oper} {fo : Operand} {xs : List Operand} {ts : Array TypeId} {f : FuncId} {vs : List Value} {cap : Array Value} {R : Ending → World → Prop} (hop : o.op = .call { callee := .value fo, args := xs.toArray, argTypes := ts })
    (hg : gOn ops env o = some true) (hd : o.dst = none) (hf : ev env fo = some (.func (.func f) #[] cap)) (hxs : evl env xs = some vs) (hen : entersB P f = true)
    (hC : ∀ w, Sat w0 w G H → Calls P f (vs.toArray ++ cap) w R) (k : ∀ e w', R e w' → After n ds env none Q K e w') :
    Holds n ds w0 env G H (stepK P ops Q o K) :=
  s_callG hop hg (fun d' h => by rw [hd] at h; cases h) hf hxs hen hC (fun e w' hr => by rw [hd]; exact k e w' hr)
end

section
open Go
set_option linter.unusedVariables false
set_option linter.unusedSimpArgs false

section
variable {P : Program} {ops : Array Oper} {Q : Exit → Act → World → Prop} {S : World → Prop} {late : List Nat}

/-- Whatever order is picked from here on; S holds behind each operation that is not a late one. -/
def wpR (P : Program) (ops : Array Oper) (late : List Nat) (Q : Exit → Act → World → Prop) (S : World → Prop) : Nat → Array Bool → Act → World → Prop
  | 0, L, a, w => Region.ready .any ops L = [] ∧ Q .normal a w
  | fuel + 1, L, a, w => (Region.ready .any ops L = [] → Q .normal a w) ∧
    ∀ i ∈ Region.ready .any ops L, wpOp P ops Q i (fun a' w' => (late.contains i = true ∨ S w') ∧ wpR P ops late Q S fuel (L.setIfInBounds i true) a' w') a w

theorem wpAny_of_wpR : ∀ (fuel : Nat) (L : Array Bool) (a : Act) (w : World), wpR P ops late Q S fuel L a w → wpAny P .any ops Q fuel L a w
  | 0, _, _, _, h => h
  | fuel + 1, _, _, _, h => ⟨h.1, fun i hi => wpOp_mono (fun a' w' h' => wpAny_of_wpR fuel _ a' w' h'.2) (h.2 i hi)⟩

theorem wpR_mono {S' : World → Prop} (hS : ∀ w, S' w → S w) : ∀ (fuel : Nat) (L : Array Bool) (a : Act) (w : World), wpR P ops late Q S' fuel L a w → wpR P ops late Q S fuel L a w
  | 0, _, _, _, h => h
  | fuel + 1, _, _, _, h => ⟨h.1, fun i hi => wpOp_mono (fun a' w' h' => ⟨h'.1.imp id (hS w'), wpR_mono hS fuel _ a' w' h'.2⟩) (h.2 i hi)⟩

/-- Each late operation that has not come up waits for number i. -/
def lateOk (ops : Array Oper) (late : List Nat) (L : Array Bool) (i : Nat) : Bool :=
  late.all fun j => L.getD j true || (match ops[j]? with | none => true | some o => o.after.any fun e => e.on == i && Region.binds .any e)

theorem late_not_ready {i j : Nat} {L : Array Bool} (hl : lateOk ops late L i = true) (hi : i ∈ Region.ready .any ops L) (hj : j ∈ Region.ready .any ops L) : late.contains j = false := by
  cases hc : late.contains j with
  | false => rfl
  | true =>
    exfalso
    have hm : j ∈ late := by simpa using hc
    have h1 := List.all_eq_true.1 hl j hm
    obtain ⟨hun, oj, hoj, hall⟩ := mem_ready.1 hj
    rw [hun, hoj] at h1
    simp only [Bool.false_or] at h1
    obtain ⟨e, he, hb⟩ := Array.any_eq_true'.1 h1
    simp only [Bool.and_eq_true, beq_iff_eq] at hb
    have h2 := hall e he hb.2
    rw [hb.1] at h2
    have h0 := (mem_ready.1 hi).1
    rcases Nat.lt_or_ge i L.size with h' | h'
    · simp [h'] at h0 h2; rw [h0] at h2; cases h2
    · simp [Array.getElem?_eq_none h'] at h2

theorem lateOk_set {i j : Nat} {L : Array Bool} (hl : lateOk ops late L i = true) : lateOk ops late (L.setIfInBounds j true) i = true := by
  refine List.all_eq_true.2 fun k hk => ?_
  have h1 := List.all_eq_true.1 hl k hk
  by_cases hjk : j = k
  · subst hjk
    have : (L.setIfInBounds j true).getD j true = true := by
      rcases Nat.lt_or_ge j L.size with h' | h'
      · simp [h']
      · simp [Array.getElem?_eq_none h', h']
    rw [this]; rfl
  · rw [getD_set_ne true hjk]; exact h1

theorem wpR_first {i : Nat} {oi : Oper} {v : Value} (hi : ops[i]? = some oi) (hsel : ∀ (j : Nat) (o : Oper) cs b, ops[j]? = some o → o.op ≠ .select cs b)
    (hQ : ∀ c a w, Q (.panic c) (a.put oi.dst v) w → Q (.panic c) a w) :
    ∀ (fuel : Nat) (L : Array Bool) (a : Act) (w : World),
      (∀ j oj, ops[j]? = some oj → j ≠ i → L.getD j true = false → (∀ e ∈ oj.after, Region.binds .any e = true → e.on ≠ i) → oi.apart ops oj = true) →
      lateOk ops late L i = true → i ∈ Region.ready .any ops L → YieldsIf P ops S oi v a → S w →
      wpR P ops late Q S fuel (L.setIfInBounds i true) (a.put oi.dst v) w → wpR P ops late Q S (fuel + 1) L a w := by
  intro fuel
  induction fuel with
  | zero =>
    intro L a w _ _ hr hy hS H
    refine ⟨fun h => (by rw [h] at hr; cases hr), fun j hj => ?_⟩
    by_cases hji : j = i
    · subst hji; exact hy.wpOp hi hS ⟨.inr hS, H⟩
    · have h1 := ready_mono hj hji
      rw [H.1] at h1
      cases h1
  | succ fuel ih =>
    intro L a w hfree hlate hr hy hS H
    refine ⟨fun h => (by rw [h] at hr; cases hr), fun j hj => ?_⟩
    by_cases hji : j = i
    · subst hji; exact hy.wpOp hi hS ⟨.inr hS, H⟩
    · have h1 := H.2 j (ready_mono hj hji)
      obtain ⟨hjun, oj, hoj, hall⟩ := mem_ready.1 hj
      have hnot : ∀ e ∈ oj.after, Region.binds .any e = true → e.on ≠ i := fun e he hb heq => by
        have h1 := hall e he hb
        have h0 := (mem_ready.1 hr).1
        rw [heq] at h1
        rcases Nat.lt_or_ge i L.size with h' | h'
        · simp [h'] at h0 h1; rw [h0] at h1; cases h1
        · simp [Array.getElem?_eq_none h'] at h1
      have h2 := wpOp_putIf hoj (hfree j oj hoj hji hjun hnot) (fun cs b => hsel i oi cs b hi) (fun cs b => hsel j oj cs b hoj) hQ hy h1
      have hfree' : ∀ k ok, ops[k]? = some ok → k ≠ i → (L.setIfInBounds j true).getD k true = false →
          (∀ e ∈ ok.after, Region.binds .any e = true → e.on ≠ i) → oi.apart ops ok = true := fun k ok hk hki hun hno => by
        refine hfree k ok hk hki ?_ hno
        by_cases hjk : j = k
        · subst hjk; exact hjun
        · rw [getD_set_ne true hjk] at hun; exact hun
      have hnl := late_not_ready hlate hr hj
      refine wpOp_mono (fun a' w' h3 => ?_) h2
      obtain ⟨hy', hs', hrest⟩ := h3
      have hS' : S w' := hs'.resolve_left (by rw [hnl]; simp)
      rw [Array.setIfInBounds_comm _ _ (Ne.symm hji)] at hrest
      exact ⟨.inr hS', ih (L.setIfInBounds j true) a' w' hfree' (lateOk_set hlate) (ready_mono hr (Ne.symm hji)) hy' hS' hrest⟩
end

variable {w0 w : World} {G G' : Im} {H H' R' : Hp}
variable {n : Nat} {ds : List Deferred} {env : Env} {P : Program} {Q : Exit → Act → World → Prop} {ops : Array Oper} {late : List Nat} {S : World → Prop} {fuel : Nat} {L : Array Bool}

theorem r_start {id : Nat} {l : List Oper} (late : List Nat) (hm : P.follows .mixedOrders = true) (h : Holds n ds w0 env G H (wpR P l.toArray late Q (fun w => Sat w0 w G H) l.length (Array.replicate l.length false))) :
    Holds n ds w0 env G H ((Code.region id l.toArray true).wp P Q) := fun a w ht hs => by
  refine wp_region_any hm ?_
  have := wpAny_of_wpR _ _ _ _ (h a w.drew ht hs.drew)
  simpa using this

/-- Behind a panic no slot is looked at. -/
def PanicOk (Q : Exit → Act → World → Prop) : Prop := ∀ c a d v w, Q (.panic c) (Act.put a (some d) v) w → Q (.panic c) a w
theorem pk_then {nx : Act → World → Prop} (h : PanicOk Q) : PanicOk (Exit.then nx Q) := h
theorem pk_block {id : Nat} (h : PanicOk Q) : PanicOk (Exit.inBlock id Q) := h
theorem pk_body {fn : Func} {R : Ending → World → Prop} : PanicOk (bodyPost P fn R) := fun _ _ _ _ _ h => h

theorem r_take (i : Nat) {oi : Oper} {d : Nat} {v : Value} {G1 : Im} {H1 : Hp} (hi : ops[i]? = some oi) (hs : Region.noSelect ops = true) (hf : Region.free .any ops L i = true) (hr : (Region.ready .any ops L).contains i = true)
    (hl : lateOk ops late L i = true) (hg : gOn ops env oi = some true) (hdst : oi.dst = some d) (hd : Nat.blt d n = true) (hv : Val P env G H oi v) (hS : ∀ w, Sat w0 w G1 H1 → Sat w0 w G H) (hQ : PanicOk Q)
    (k : Holds n ds w0 ((d, v) :: env) G1 H1 (wpR P ops late Q (fun w => Sat w0 w G H) fuel (L.setIfInBounds i true))) :
    Holds n ds w0 env G1 H1 (wpR P ops late Q (fun w => Sat w0 w G H) (fuel + 1) L) := fun a w ht hw => by
  refine wpR_first hi (Region.noSelect_spec hs) (fun c a w h => hQ c a _ _ w (by rw [hdst] at h; exact h)) fuel L a w (Region.free_spec hi hf) hl (by simpa using hr) (.inl ⟨gOn_spec ht hg, fun w' hw' => hv a n ds w0 w' ht hw'⟩) (hS w hw) ?_
  rw [hdst]
  exact k _ w (ht.put (of_blt hd) v) hw
/-- The same with what is alike everywhere left to be found. -/
theorem r_tk (i : Nat) {oi : Oper} {d : Nat} {v : Value} {G1 : Im} {H1 : Hp} (hi : ops[i]? = some oi) (hdst : oi.dst = some d) (hv : Val P env G H oi v) (hS : ∀ w, Sat w0 w G1 H1 → Sat w0 w G H)
    (k : Holds n ds w0 ((d, v) :: env) G1 H1 (wpR P ops late Q (fun w => Sat w0 w G H) fuel (L.setIfInBounds i true)))
    (hs : Region.noSelect ops = true := by kernel_rfl) (hf : Region.free .any ops L i = true := by kernel_rfl) (hr : (Region.ready .any ops L).contains i = true := by kernel_rfl)
    (hl : lateOk ops late L i = true := by kernel_rfl) (hg : gOn ops env oi = some true := by exact rfl) (hd : Nat.blt d n = true := by exact rfl) (hQ : PanicOk Q := by repeat (first | exact pk_body | exact pk_no | exact pk_S | apply pk_then | apply pk_block)) :
    Holds n ds w0 env G1 H1 (wpR P ops late Q (fun w => Sat w0 w G H) (fuel + 1) L) := r_take i hi hs hf hr hl hg hdst hd hv hS hQ k
theorem r_skip (i : Nat) {oi : Oper} {d : Nat} {G1 : Im} {H1 : Hp} (hi : ops[i]? = some oi) (hs : Region.noSelect ops = true) (hf : Region.free .any ops L i = true) (hr : (Region.ready .any ops L).contains i = true)
    (hl : lateOk ops late L i = true) (hg : gOn ops env oi = some false) (hdst : oi.dst = some d) (hd : Nat.blt d n = true) (hS : ∀ w, Sat w0 w G1 H1 → Sat w0 w G H) (hQ : PanicOk Q)
    (k : Holds n ds w0 ((d, undef) :: env) G1 H1 (wpR P ops late Q (fun w => Sat w0 w G H) fuel (L.setIfInBounds i true))) :
    Holds n ds w0 env G1 H1 (wpR P ops late Q (fun w => Sat w0 w G H) (fuel + 1) L) := fun a w ht hw => by
  refine wpR_first hi (Region.noSelect_spec hs) (fun c a w h => hQ c a _ _ w (by rw [hdst] at h; exact h)) fuel L a w (Region.free_spec hi hf) hl (by simpa using hr) (.inr ⟨gOn_spec ht hg, rfl⟩) (hS w hw) ?_
  rw [hdst]
  exact k _ w (ht.put (of_blt hd) undef) hw

/-- The one operation that may come up is carried out. -/
theorem r_one (i : Nat) {o : Oper} (hr : Region.ready .any ops L = [i]) (ho : ops[i]? = some o)
    (k : Holds n ds w0 env G H (stepK P ops Q o (fun a w => (late.contains i = true ∨ S w) ∧ wpR P ops late Q S fuel (L.setIfInBounds i true) a w))) :
    Holds n ds w0 env G H (wpR P ops late Q S (fuel + 1) L) := fun a w ht hs => by
  refine ⟨fun h => (by rw [hr] at h; cases h), fun j hj => ?_⟩
  rw [hr] at hj
  have e : j = i := by simpa using hj
  subst e
  unfold wpOp
  rw [ho]
  exact k a w ht hs
/-- Two may come up: each first. -/
theorem r_two (i j : Nat) {o p : Oper} (hr : Region.ready .any ops L = [i, j]) (ho : ops[i]? = some o) (hp : ops[j]? = some p)
    (k : Holds n ds w0 env G H (stepK P ops Q o (fun a w => (late.contains i = true ∨ S w) ∧ wpR P ops late Q S fuel (L.setIfInBounds i true) a w)))
    (k' : Holds n ds w0 env G H (stepK P ops Q p (fun a w => (late.contains j = true ∨ S w) ∧ wpR P ops late Q S fuel (L.setIfInBounds j true) a w))) :
    Holds n ds w0 env G H (wpR P ops late Q S (fuel + 1) L) := fun a w ht hs => by
  refine ⟨fun h => (by rw [hr] at h; cases h), fun q hq => ?_⟩
  rw [hr] at hq
  have e : q = i ∨ q = j := by simpa using hq
  rcases e with rfl | rfl
  · unfold wpOp; rw [ho]; exact k a w ht hs
  · unfold wpOp; rw [hp]; exact k' a w ht hs
theorem r_next {c : Prop} (hS : ∀ w, Sat w0 w G H → S w) (k : Holds n ds w0 env G H (wpR P ops late Q S fuel L)) :
    Holds n ds w0 env G H (fun a w => (c ∨ S w) ∧ wpR P ops late Q S fuel L a w) := fun a w ht hs => ⟨.inr (hS w hs), k a w ht hs⟩
theorem r_late {c : Prop} (hc : c) (k : Holds n ds w0 env G H (wpR P ops late Q S fuel L)) :
    Holds n ds w0 env G H (fun a w => (c ∨ S w) ∧ wpR P ops late Q S fuel L a w) := fun a w ht hs => ⟨.inl hc, k a w ht hs⟩
theorem r_done (hr : Region.ready .any ops L = []) (k : Holds n ds w0 env G H (Q .normal)) : Holds n ds w0 env G H (wpR P ops late Q S fuel L) := fun a w ht hs => by
  cases fuel with
  | zero => exact ⟨hr, k a w ht hs⟩
  | succ f => exact ⟨fun _ => k a w ht hs, by rw [hr]; simp⟩
/-- From here on a narrower class of worlds is held. -/
theorem r_sub (G1 : Im) (H1 : Hp) (hS : ∀ w, Sat w0 w G1 H1 → S w) (k : Holds n ds w0 env G H (wpR P ops late Q (fun w => Sat w0 w G1 H1) fuel L)) : Holds n ds w0 env G H (wpR P ops late Q S fuel L) :=
  fun a w ht hs => wpR_mono hS _ _ _ _ (k a w ht hs)

/-! ### A loop's beginning and a round's end -/
theorem l_at {env' : Env} {K R' : Hp} (he : Env.sub env env') (hsp : Split H K R') : Holds n ds w0 env G H (fun a w => TT a n ds env' ∧ Sat w0 w G K) := fun a w ht hs => ⟨ht.mono (Env.sub_spec he), hs.only hsp⟩
theorem l_next {α : Type} {env' : α → Env} {G' : α → Im} {H' : α → Hp} {inv : α → Prop} {mu : α → Nat} {x : α} {R' : Hp} (y : α) (hy : inv y) (hm : mu y < mu x) (he : Env.sub env (env' y)) (hG : G' y = G) (hsp : Split H (H' y) R') :
    Holds n ds w0 env G H (fun a w => ∃ y, inv y ∧ mu y < mu x ∧ TT a n ds (env' y) ∧ Sat w0 w (G' y) (H' y)) := fun a w ht hs =>
  ⟨y, hy, hm, ht.mono (Env.sub_spec he), by rw [hG]; exact hs.only hsp⟩

/-! ### A function's beginning and end -/
def envOf : Nat → List Value → Env
  | _, [] => []
  | i, v :: r => (i, v) :: envOf (i + 1) r
theorem envOf_spec : ∀ (vs : List Value) (i j : Nat) (v : Value), (envOf i vs).lookup j = some v → i ≤ j ∧ vs[j - i]? = some v
  | [], _, _, _, h => by cases h
  | u :: r, i, j, v, h => by
    simp only [envOf, List.lookup] at h
    split at h
    · rename_i e
      have e' : j = i := by simpa using e
      subst e'; cases h; simp
    · rename_i e
      have e' : ¬ j = i := by simpa using e
      obtain ⟨h1, h2⟩ := envOf_spec r (i + 1) j v h
      refine ⟨by omega, ?_⟩
      have : j - i = (j - (i + 1)) + 1 := by omega
      rw [this, List.getElem?_cons_succ]; exact h2

theorem f_enter {f : FuncId} {fn : Func} {c : Code} {vs : List Value} {R : Ending → World → Prop} (hf : P.funcs[f]? = some fn) (hb : fn.body = some c) (hn : fn.ntmps = n) (hl : vs.length ≤ n) (hs : Sat w0 w G H)
    (h : Holds n [] w0 (envOf 0 vs) G H (c.wp P (bodyPost P fn R))) : Calls P f vs.toArray w R := by
  refine calls_of_wp hf hb (h _ w ⟨?_, rfl, fun i v hv => ?_⟩ hs)
  · simp [hn]; omega
  · obtain ⟨_, h2⟩ := envOf_spec vs 0 i v hv
    have hlt : i < vs.length := by simpa using (List.getElem?_eq_some_iff.1 h2).1
    rw [Array.getElem?_append_left (by simpa using hlt)]
    simpa using h2

theorem f_ret0 {fn : Func} {R : Ending → World → Prop} (hr : fn.results = #[]) (hR : ∀ w, Sat w0 w G H → R (.returned (.tuple #[])) w) : Holds n [] w0 env G H (bodyPost P fn R .ret) := fun a w ht hs =>
  ⟨ht.defers, _, results_none hr _ _ _, hR w hs⟩
theorem f_end0 {fn : Func} {R : Ending → World → Prop} (hr : fn.results = #[]) (hR : ∀ w, Sat w0 w G H → R (.returned (.tuple #[])) w) : Holds n [] w0 env G H (bodyPost P fn R .normal) := fun a w ht hs =>
  ⟨ht.defers, _, results_none hr _ _ _, hR w hs⟩
theorem TT.getD {a : Act} {t : Nat} {v : Value} (ht : TT a n ds env) (h : env.lookup t = some v) : a.tmps.getD t undef = v := by
  have := ht.get t v h
  simp [this]
theorem f_ret1 {fn : Func} {R : Ending → World → Prop} {t : Tmp} {v : Value} (hr : fn.results = #[.tmp t]) (hv : env.lookup t = some v) (hR : ∀ w, Sat w0 w G H → R (.returned v) w) : Holds n [] w0 env G H (bodyPost P fn R .ret) := fun a w ht hs =>
  ⟨ht.defers, v, by rw [results_tmp hr, ht.getD hv], hR w hs⟩
theorem f_ret2 {fn : Func} {R : Ending → World → Prop} {t u : Tmp} {v x : Value} (hr : fn.results = #[.tmp t, .tmp u]) (hv : env.lookup t = some v) (hx : env.lookup u = some x) (hR : ∀ w, Sat w0 w G H → R (.returned (.tuple #[v, x])) w) : Holds n [] w0 env G H (bodyPost P fn R .ret) := fun a w ht hs =>
  ⟨ht.defers, _, by rw [results_tmp2 hr, ht.getD hv, ht.getD hx], hR w hs⟩
theorem f_ret3 {fn : Func} {R : Ending → World → Prop} {t u s : Tmp} {v x y : Value} (hr : fn.results = #[.tmp t, .tmp u, .tmp s]) (hv : env.lookup t = some v) (hx : env.lookup u = some x) (hy : env.lookup s = some y)
    (hR : ∀ w, Sat w0 w G H → R (.returned (.tuple #[v, x, y])) w) : Holds n [] w0 env G H (bodyPost P fn R .ret) := fun a w ht hs =>
  ⟨ht.defers, .tuple #[v, x, y], by simp [results, hr, ht.getD hv, ht.getD hx, ht.getD hy]; exact ⟨by rw [← ht.getD hv]; simp, by rw [← ht.getD hx]; simp, by rw [← ht.getD hy]; simp⟩, hR w hs⟩
/-- A result that lies in a cell. -/
theorem f_retc {fn : Func} {R : Ending → World → Prop} {t : Tmp} {ty : TypeId} {b : Nat} {v : Value} (hr : fn.results = #[.cell t ty]) (hp : env.lookup t = some (Pt b 0)) (hb : Cel G H b 0 v) (ha : aggB P ty = some false)
    (hR : ∀ w, Sat w0 w G H → R (.returned v) w) : Holds n [] w0 env G H (bodyPost P fn R .ret) := fun a w ht hs => by
  have hc := hb.cell hs
  have hg := ht.get t _ hp
  exact ⟨ht.defers, v, by simp [results, hr, hg, asAddr, loadVar, run_isAgg' ha, hc], hR w hs⟩
theorem bp_panic {fn : Func} {R : Ending → World → Prop} {ch : List PanicEntry} (hR : ∀ w, Sat w0 w G H → R (.panicked ch) w) : Holds n [] w0 env G H (bodyPost P fn R (.panic ch)) := fun a w ht hs => ⟨ht.defers, hR w hs⟩

/-- The frame of a contract: what is called keeps the rest. -/
theorem Sat.app_nil (h : Sat w0 w G H) : Sat w0 w G ([] ++ H) := h
/-- At a law's beginning nothing is owned. -/
theorem Sat.start (w : World) : Sat w w (fun b => w.heap[b]?) [] :=
  ⟨rfl, rfl, rfl, Nat.le_refl _, fun _ _ h => h, by simp, by simp, by simp⟩
theorem Sat.below (h : Sat w0 w G H) (hG : Im.le (fun b => w0.heap[b]?) G) : Go.RowKit.Below w0.heap.size w0 w :=
  ⟨h.os, h.tape, h.output, h.size, fun k hk => by
    have : w0.heap[k]? = some w0.heap[k] := Array.getElem?_eq_getElem hk
    rw [this]; exact h.imm k _ (hG k _ this)⟩
end

section
open Go
set_option linter.unusedVariables false
set_option linter.unusedSimpArgs false

def FW (r : Option Nat) : Fence := { Fence.wide with round := r }
theorem fw_calls {r : Option Nat} {m : Nat} {P : Program} {f : FuncId} {args : Array Value} {w : World} {R : Ending → World → Prop} (h : Calls P f args w R) : CallsIn (FW r) m P f args w R := by
  have h1 := (callsIn_wide (n := m)).2 h
  cases r with
  | none => exact h1
  | some l => exact CallsIn.inRound l h1
theorem fw_back {m : Nat} {P : Program} {f : FuncId} {args : Array Value} {w : World} {R : Ending → World → Prop} (h : CallsIn (FW none) m P f args w R) : Calls P f args w R := (callsIn_wide (n := m)).1 h
theorem fw_depth (r : Option Nat) : (FW r).depth = none := rfl
theorem fw_fn (r : Option Nat) (f : FuncId) : (FW r).fn f := trivial

variable {w0 w : World} {G G' : Im} {H H' R' : Hp} {r : Option Nat} {m : Nat}
variable {n : Nat} {ds : List Deferred} {env : Env} {P : Program} {Q : Exit → Act → World → Prop} {R : Act → World → Prop} {ops : Array Oper} {rest : List Oper} {K : Act → World → Prop}

theorem i_seq {x y : Code} (h : Holds n ds w0 env G H (x.wpIn (FW r) m P (Exit.then (y.wpIn (FW r) m P Q) Q))) : Holds n ds w0 env G H ((Code.seq x y).wpIn (FW r) m P Q) := fun a w ht hs => wpIn_seq (h a w ht hs)
theorem i_skip (h : Holds n ds w0 env G H (Q .normal)) : Holds n ds w0 env G H (Code.skip.wpIn (FW r) m P Q) := fun a w ht hs => wpIn_skip (h a w ht hs)
theorem i_ret (h : Holds n ds w0 env G H (Q .ret)) : Holds n ds w0 env G H (Code.ret.wpIn (FW r) m P Q) := fun a w ht hs => wpIn_ret (h a w ht hs)
theorem i_exit {id : Nat} (h : Holds n ds w0 env G H (Q (.exit id))) : Holds n ds w0 env G H ((Code.exit id).wpIn (FW r) m P Q) := fun a w ht hs => wpIn_exit (h a w ht hs)
theorem i_block {id : Nat} {c : Code} (h : Holds n ds w0 env G H (c.wpIn (FW r) m P (Exit.inBlock id Q))) : Holds n ds w0 env G H ((Code.block id c).wpIn (FW r) m P Q) := fun a w ht hs => wpIn_block (h a w ht hs)
theorem i_region {id : Nat} {l : List Oper} (h : Holds n ds w0 env G H (wpListIn (FW r) m P l.toArray Q l)) : Holds n ds w0 env G H ((Code.region id l.toArray false).wpIn (FW r) m P Q) := fun a w ht hs => wpIn_region_lit (h a w ht hs)
theorem i_nil (h : Holds n ds w0 env G H (Q .normal)) : Holds n ds w0 env G H (wpListIn (FW r) m P ops Q []) := fun a w ht hs => wpListIn_nil (h a w ht hs)
theorem i_cond {c : Operand} {x y : Code} {β : Bool} (hc : ev env c = some (.bool β)) (h1 : β = true → Holds n ds w0 env G H (x.wpIn (FW r) m P Q)) (h2 : β = false → Holds n ds w0 env G H (y.wpIn (FW r) m P Q)) : Holds n ds w0 env G H ((Code.cond c x y).wpIn (FW r) m P Q) := fun a w ht hs => by
  cases hb : β with
  | true => exact wpIn_cond_true (by rw [ht.eval hc, hb]) (h1 hb a w ht hs)
  | false => exact wpIn_cond_false (by rw [ht.eval hc, hb]) (h2 hb a w ht hs)
theorem i_cond_t {c : Operand} {x y : Code} (hc : ev env c = some (.bool true)) (h1 : Holds n ds w0 env G H (x.wpIn (FW r) m P Q)) : Holds n ds w0 env G H ((Code.cond c x y).wpIn (FW r) m P Q) := i_cond hc (fun _ => h1) (fun e => by cases e)
theorem i_cond_f {c : Operand} {x y : Code} (hc : ev env c = some (.bool false)) (h1 : Holds n ds w0 env G H (y.wpIn (FW r) m P Q)) : Holds n ds w0 env G H ((Code.cond c x y).wpIn (FW r) m P Q) := i_cond hc (fun e => by cases e) (fun _ => h1)
theorem i_cond_d {c : Operand} {x y : Code} {p : Prop} [Decidable p] (hc : ev env c = some (.bool (decide p))) (h1 : p → Holds n ds w0 env G H (x.wpIn (FW r) m P Q)) (h2 : ¬ p → Holds n ds w0 env G H (y.wpIn (FW r) m P Q)) : Holds n ds w0 env G H ((Code.cond c x y).wpIn (FW r) m P Q) :=
  i_cond hc (fun e => h1 (of_decide_eq_true e)) (fun e => h2 (of_decide_eq_false e))

/-- One operation of a list, and what follows. -/
def stepI (r : Option Nat) (m : Nat) (P : Program) (ops : Array Oper) (Q : Exit → Act → World → Prop) (o : Oper) (K : Act → World → Prop) (a : Act) (w : World) : Prop :=
  if Region.wanted o (yielded ops a.tmps) then o.wpIn (FW r) m P a w K Q else (∀ f, o.about P w a.eval = some f → (FW r).fn f) ∧ K (a.put o.dst undef) w
theorem i_cons {o : Oper} (h : Holds n ds w0 env G H (stepI r m P ops Q o (wpListIn (FW r) m P ops Q rest))) : Holds n ds w0 env G H (wpListIn (FW r) m P ops Q (o :: rest)) := fun a w ht hs => h a w ht hs

/-- No statement that defers. -/
def noDefer (o : Oper) : Bool := match o.op with
  | .defer _ => false
  | _ => true
theorem semAt_noDefer {o : Oper} (h : noDefer o = true) (ρ : Operand → Value) : o.semAt (FW r).round ρ = execOp ρ o := Oper.semAt_eq _ _ _ fun c hc => by
  unfold noDefer at h; rw [hc] at h; cases h

theorem i_val {o : Oper} {d : Nat} {v : Value} (hv : Val P env G H o v) (hg : gOn ops env o = some true) (hdst : o.dst = some d) (hd : Nat.blt d n = true) (hnd : noDefer o = true)
    (k : Holds n ds w0 ((d, v) :: env) G H K) : Holds n ds w0 env G H (stepI r m P ops Q o K) := fun a w ht hs => by
  unfold stepI
  rw [gOn_spec ht hg, if_pos rfl]
  refine ⟨fun _ _ => trivial, ?_⟩
  rw [semAt_noDefer hnd, hv a n ds w0 w ht hs, Oper.uponIn_value, hdst]
  exact k _ w (ht.put (of_blt hd) v) hs
theorem i_gskip {o : Oper} {d : Nat} (hg : gOn ops env o = some false) (hdst : o.dst = some d) (hd : Nat.blt d n = true)
    (k : Holds n ds w0 ((d, undef) :: env) G H K) : Holds n ds w0 env G H (stepI r m P ops Q o K) := fun a w ht hs => by
  unfold stepI
  rw [gOn_spec ht hg, if_neg (by simp), hdst]
  exact ⟨fun _ _ => trivial, k _ w (ht.put (of_blt hd) undef) hs⟩
theorem i_gskip0 {o : Oper} (hg : gOn ops env o = some false) (hdst : o.dst = none)
    (k : Holds n ds w0 env G H K) : Holds n ds w0 env G H (stepI r m P ops Q o K) := fun a w ht hs => by
  unfold stepI
  rw [gOn_spec ht hg, if_neg (by simp), hdst]
  exact ⟨fun _ _ => trivial, k _ w ht hs⟩
theorem i_eff {o : Oper} {d : Nat} {Φ : Value → World → Prop} (hg : gOn ops env o = some true) (hdst : o.dst = some d) (hd : Nat.blt d n = true) (hnd : noDefer o = true) (he : Eff P w0 env G H o Φ)
    (k : ∀ v w', Φ v w' → HoldsW n ds ((d, v) :: env) w' K) : Holds n ds w0 env G H (stepI r m P ops Q o K) := fun a w ht hs => by
  unfold stepI
  rw [gOn_spec ht hg, if_pos rfl]
  obtain ⟨v, w', hr, hp⟩ := he a n ds w ht hs
  refine ⟨fun _ _ => trivial, ?_⟩
  rw [semAt_noDefer hnd, hr, Oper.uponIn_value, hdst]
  exact k v w' hp _ (ht.put (of_blt hd) v)
theorem i_eff0 {o : Oper} {Φ : World → Prop} (hg : gOn ops env o = some true) (hdst : o.dst = none) (hnd : noDefer o = true) (he : Eff0 P w0 env G H o Φ)
    (k : ∀ w', Φ w' → HoldsW n ds env w' K) : Holds n ds w0 env G H (stepI r m P ops Q o K) := fun a w ht hs => by
  unfold stepI
  rw [gOn_spec ht hg, if_pos rfl]
  obtain ⟨w', hr, hp⟩ := he a n ds w ht hs
  refine ⟨fun _ _ => trivial, ?_⟩
  rw [semAt_noDefer hnd, hr, Oper.uponIn_skip, hdst]
  exact k w' hp _ ht
theorem i_store {t t' : TypeId} {ty : TypeId} {pos : String} {aft : Array Edge} {g : Option (Nat × Bool)} {x y : Operand} {b o : Nat} {v : Value} {L : List Value} {H1 : Hp} (hg : gOn ops env ⟨none, .store t x y, ty, pos, aft, g⟩ = some true)
    (hx : ev env x = some (Pt b o)) (hy : ev env y = some v) (hp : Pick b (Cs L t') H H1) (hz : szB P t = some v.cells.size) (h1 : ∀ u ∈ v.cells.toList, u.oneCell' = true) (hl : o + v.cells.size ≤ L.length)
    (k : Holds n ds w0 env G ((b, Cs (L.take o ++ v.cells.toList ++ L.drop (o + v.cells.size)) t') :: H1) K) :
    Holds n ds w0 env G H (stepI r m P ops Q ⟨none, .store t x y, ty, pos, aft, g⟩ K) :=
  i_eff0 (Φ := fun w' => Sat w0 w' G ((b, Cs (L.take o ++ v.cells.toList ++ L.drop (o + v.cells.size)) t') :: H1)) hg rfl rfl (e_store hx hy hp hz h1 hl) (fun w' hs => k.atw hs)

theorem i_store1 {t t' : TypeId} {ty : TypeId} {pos : String} {aft : Array Edge} {g : Option (Nat × Bool)} {x y : Operand} {b o : Nat} {v : Value} {L : List Value} {H1 : Hp} (hg : gOn ops env ⟨none, .store t x y, ty, pos, aft, g⟩ = some true)
    (hx : ev env x = some (Pt b o)) (hy : ev env y = some v) (hp : Pick b (Cs L t') H H1) (hz : szB P t = some 1) (h1 : v.oneCell' = true) (hl : o < L.length)
    (k : Holds n ds w0 env G ((b, Cs (L.set o v) t') :: H1) K) :
    Holds n ds w0 env G H (stepI r m P ops Q ⟨none, .store t x y, ty, pos, aft, g⟩ K) :=
  i_eff0 hg rfl rfl (e_store1 hx hy hp hz h1 hl) (fun w' hs => k.atw hs)
theorem i_box {d : Nat} {t : TypeId} {ty : TypeId} {pos : String} {aft : Array Edge} {g : Option (Nat × Bool)} {x : Operand} {v : Value} (hg : gOn ops env ⟨some d, .box t x, ty, pos, aft, g⟩ = some true) (hd : Nat.blt d n = true) (hx : ev env x = some v)
    (k : ∀ b, Holds n ds w0 ((d, Pt b 0) :: env) G ((b, Cs v.cells.toList t) :: H) K) :
    Holds n ds w0 env G H (stepI r m P ops Q ⟨some d, .box t x, ty, pos, aft, g⟩ K) :=
  i_eff hg rfl hd rfl (e_box hx) (fun u w' ⟨b, hu, hs⟩ => by subst hu; exact (k b).atw hs)

theorem i_callG {o : Oper} {fo : Operand} {xs : List Operand} {ts : Array TypeId} {f : FuncId} {vs : List Value} {cap : Array Value} {R : Ending → World → Prop} (hop : o.op = .call { callee := .value fo, args := xs.toArray, argTypes := ts })
    (hg : gOn ops env o = some true) (hd : ∀ d, o.dst = some d → d < n) (hf : ev env fo = some (.func (.func f) #[] cap)) (hxs : evl env xs = some vs) (hen : entersB P f = true)
    (hC : ∀ w, Sat w0 w G H → Calls P f (vs.toArray ++ cap) w R) (k : ∀ e w', R e w' → After n ds env o.dst Q K e w') :
    Holds n ds w0 env G H (stepI r m P ops Q o K) := fun a w ht hs => by
  unfold stepI
  rw [gOn_spec ht hg, if_pos rfl]
  have hrun : (execOp a.eval o).run P w = .ok (.enter f (vs.toArray ++ cap)) w := by
    simp [execOp, hop, resolve, ht.eval hf, ht.evall hxs, Deferred.ofValue, invoke, enters_run hen]
  refine ⟨fun _ _ => trivial, ?_⟩
  rw [semAt_noDefer (by simp [noDefer, hop]), hrun, Oper.uponIn_enter]
  refine ⟨by simp [fw_depth], ?_⟩
  refine (fw_calls (hC w hs)).mono fun e w' hr => ?_
  have := k e w' hr
  cases e with
  | returned v =>
    simp only [After] at this ⊢
    cases hdst : o.dst with
    | none => rw [hdst] at this; exact this a ht
    | some d => rw [hdst] at this; exact this _ (ht.put (hd d hdst) v)
  | panicked ch => exact this a ht
  | outgrown => exact this
theorem i_call {o : Oper} {d : Tmp} {fo : Operand} {xs : List Operand} {ts : Array TypeId} {f : FuncId} {vs : List Value} {cap : Array Value} {R : Ending → World → Prop} (hop : o.op = .call { callee := .value fo, args := xs.toArray, argTypes := ts })
    (hg : gOn ops env o = some true) (hd : o.dst = some d) (hlt : Nat.blt d n = true) (hf : ev env fo = some (.func (.func f) #[] cap)) (hxs : evl env xs = some vs) (hen : entersB P f = true)
    (hC : ∀ w, Sat w0 w G H → Calls P f (vs.toArray ++ cap) w R) (k : ∀ e w', R e w' → AfterD n ds env d Q K e w') :
    Holds n ds w0 env G H (stepI r m P ops Q o K) :=
  i_callG hop hg (fun d' h => by rw [hd] at h; cases h; exact of_blt hlt) hf hxs hen hC (fun e w' hr => (k e w' hr).after hd)
theorem i_call0 {o : Oper} {fo : Operand} {xs : List Operand} {ts : Array TypeId} {f : FuncId} {vs : List Value} {cap : Array Value} {R : Ending → World → Prop} (hop : o.op = .call { callee := .value fo, args := xs.toArray, argTypes := ts })
    (hg : gOn ops env o = some true) (hd : o.dst = none) (hf : ev env fo = some (.func (.func f) #[] cap)) (hxs : evl env xs = some vs) (hen : entersB P f = true)
    (hC : ∀ w, Sat w0 w G H → Calls P f (vs.toArray ++ cap) w R) (k : ∀ e w', R e w' → After n ds env none Q K e w') :
    Holds n ds w0 env G H (stepI r m P ops Q o K) :=
  i_callG hop hg (fun d' h => by rw [hd] at h; cases h) hf hxs hen hC (fun e w' hr => by rw [hd]; exact k e w' hr)

/-- What a round does to the heap: the iterator hands 'xs' over, and hears 'go on'. -/
def RoundTo (P : Program) (l : Nat) (xs : List Value) (w : World) (R : World → Prop) : Prop :=
  ∃ fn tmps assign body, (Instr.yield l xs.toArray).run P w = .ok (.round l fn tmps assign body) w ∧ RoundIn (FW none) 0 P l fn tmps assign body w fun e w' => e = .returned (.bool true) ∧ R w'

/-- A call of yield. -/
theorem i_yield {o : Oper} {fo : Operand} {xs : List Operand} {ts : Array TypeId} {l d : Nat} {vs : List Value} {R : World → Prop} (hop : o.op = .call { callee := .value fo, args := xs.toArray, argTypes := ts })
    (hg : gOn ops env o = some true) (hdst : o.dst = some d) (hd : Nat.blt d n = true) (hf : ev env fo = some (.func (.yield l) #[] #[])) (hxs : evl env xs = some vs)
    (hY : ∀ w, Sat w0 w G H → RoundTo P l vs w R) (k : ∀ w', R w' → HoldsW n ds ((d, .bool true) :: env) w' K) :
    Holds n ds w0 env G H (stepI none 0 P ops Q o K) := fun a w ht hs => by
  unfold stepI
  rw [gOn_spec ht hg, if_pos rfl]
  obtain ⟨fn, tmps, assign, body, hy, hR⟩ := hY w hs
  have hrun : (execOp a.eval o).run P w = .ok (.round l fn tmps assign body) w := by
    simp [execOp, hop, resolve, ht.eval hf, ht.evall hxs, Deferred.ofValue, invoke, hy]
  refine ⟨fun _ _ => trivial, ?_⟩
  rw [semAt_noDefer (by simp [noDefer, hop]), hrun, Oper.uponIn_round]
  refine ⟨by simp [fw_depth], ?_⟩
  refine hR.mono ?_
  rintro e w' ⟨rfl, hr⟩
  rw [hdst]
  exact k w' hr _ (ht.put (of_blt hd) _)

theorem i_loop {α : Type} {c : Code} (env' : α → Env) (G' : α → Im) (H' : α → Hp) (inv : α → Prop) (mu : α → Nat) (x0 : α) (h0 : inv x0)
    (start : Holds n ds w0 env G H (fun a w => TT a n ds (env' x0) ∧ Sat w0 w (G' x0) (H' x0)))
    (round : ∀ x, inv x → Holds n ds w0 (env' x) (G' x) (H' x) (c.wpIn (FW r) m P (Exit.then (fun a w => ∃ y, inv y ∧ mu y < mu x ∧ TT a n ds (env' y) ∧ Sat w0 w (G' y) (H' y)) Q))) :
    Holds n ds w0 env G H ((Code.loop c).wpIn (FW r) m P Q) := by
  intro a w ht hs b k cs hro hb hr
  have key : ∀ q x, mu x = q → inv x → ∀ a w, TT a n ds (env' x) → Sat w0 w (G' x) (H' x) →
      ∃ e a' w', Q e a' w' ∧ ArrivesIn (Machine.fenced P (FW r)) P (lone (b.atR a (.code c :: .inLoop c :: k)) cs w) b k cs e a' w' := by
    intro q
    induction q using Nat.strongRecOn with
    | _ q ih =>
      intro x hm hx a w ht hs
      obtain ⟨e, a₁, w₁, hq, harr⟩ := round x hx a w ht hs b (.inLoop c :: k) cs hro hb hr
      cases e with
      | normal =>
        obtain ⟨y, hy, hlt, ht1, hs1⟩ := hq
        obtain ⟨e₂, a₂, w₂, hq₂, harr₂⟩ := ih (mu y) (hm ▸ hlt) y rfl hy a₁ w₁ ht1 hs1
        exact ⟨e₂, a₂, w₂, hq₂, .of_steps (StepsIn.trans harr (.one (fenced_calm hb hr rfl) stepR_inLoop)) harr₂⟩
      | exit id => exact ⟨_, a₁, w₁, hq, .pass (x := .inLoop c) rfl (fun _ _ => .inl (by simp)) harr⟩
      | goto l => exact ⟨_, a₁, w₁, hq, .pass (x := .inLoop c) rfl (fun _ _ => .inl (by simp)) harr⟩
      | ret => exact ⟨_, a₁, w₁, hq, .pass (x := .inLoop c) rfl (fun _ _ => .inl (by simp)) harr⟩
      | panic ch => exact ⟨_, a₁, w₁, hq, .pass (x := .inLoop c) rfl (fun _ _ => .inl (by simp)) harr⟩
      | outgrown => exact ⟨_, a₁, w₁, hq, .pass (x := .inLoop c) rfl (fun _ _ => .inl (by simp)) harr⟩
  obtain ⟨ht1, hs1⟩ := start a w ht hs
  obtain ⟨e, a', w', hq, harr⟩ := key _ x0 rfl h0 a w ht1 hs1
  exact ⟨e, a', w', hq, .of_steps (.one (fenced_calm hb hr rfl) stepR_loop) harr⟩

/-! ### Functions -/
theorem i_enter {f : FuncId} {fn : Func} {c : Code} {vs : List Value} {R : Ending → World → Prop} (hf : P.funcs[f]? = some fn) (hb : fn.body = some c) (hn : fn.ntmps = n) (hl : vs.length ≤ n) (hs : Sat w0 w G H)
    (h : Holds n [] w0 (envOf 0 vs) G H (c.wpIn (FW none) 0 P (bodyPostM (FW none) 0 P fn R))) : CallsIn (FW none) 0 P f vs.toArray w R := by
  refine callsIn_of_wp_marks hf hb trivial (h _ w ⟨?_, rfl, fun i v hv => ?_⟩ hs) rfl
  · simp [hn]; omega
  · obtain ⟨_, h2⟩ := envOf_spec vs 0 i v hv
    have hlt : i < vs.length := by simpa using (List.getElem?_eq_some_iff.1 h2).1
    rw [Array.getElem?_append_left (by simpa using hlt)]
    simpa using h2
theorem i_end0 {fn : Func} {R : Ending → World → Prop} (hr : fn.results = #[]) (hR : ∀ w, Sat w0 w G H → R (.returned (.tuple #[])) w) : Holds n [] w0 env G H (bodyPostM (FW none) 0 P fn R .normal) := fun a w ht hs => by
  show LeavesInM _ _ _ _ _ _ _ _ _
  rw [ht.defers]
  exact ⟨_, results_none hr _ _ _, hR w hs⟩
theorem i_ret1 {fn : Func} {R : Ending → World → Prop} {t : Tmp} {v : Value} {D : Nat} {H1 : Hp} (hr : fn.results = #[.tmp t]) (hv : env.lookup t = some v) (hp : Pick D (.deferred (some [])) H H1) (hR : ∀ w, Sat w0 w G H1 → R (.returned v) w) :
    Holds n [{ target := .collected D, args := #[] }] w0 env G H (bodyPostM (FW none) 0 P fn R .ret) := fun a w ht hs => by
  show LeavesInM _ _ _ _ _ _ _ _ _
  rw [ht.defers]
  have hs1 := hs.perm hp.perm
  have hK := hs1.own _ (List.mem_cons_self ..)
  have hlt := hs1.lt (List.mem_cons_self ..)
  refine ⟨by simp, .inl ⟨D, _, rfl, run_takeDeferred hK, ?_⟩⟩
  refine ⟨_, by rw [results_tmp hr, ht.getD hv], hR _ ?_⟩
  have hs2 := hs1.upd (w' := w.putObj D (.deferred none)) (o' := .deferred none) rfl rfl rfl (by simp) (World.putObj_heap_same hlt) (fun k _ hk => World.putObj_heap_other hk)
  exact hs2.tl
end

section
open Go
set_option linter.unusedVariables false
set_option linter.unusedSimpArgs false

variable {w0 w : World} {G G' : Im} {H H' : Hp}
variable {n : Nat} {ds : List Deferred} {env : Env} {P : Program} {Q : Exit → Act → World → Prop}

/-- What is ranged over hands the values xs over, one by one, to whatever rounds leave its own memory alone. -/
def ItSpec (P : Program) (gf : FuncId) (cap : Array Value) (G : Im) (xs : List Value) : Prop :=
  ∀ (l : Nat) (w0 : World) (Hj : Nat → Hp),
    (∀ (j : Nat) (h : j < xs.length) (w : World), Sat w0 w G (Hj j) → RoundTo P l [xs[j]] w (fun w' => Sat w0 w' G (Hj (j + 1)))) →
    ∀ w, Sat w0 w G (Hj 0) → CallsIn (FW none) 0 P gf (#[.func (.yield l) #[] #[]] ++ cap) w (fun e w' => (∃ v, e = .returned v) ∧ Sat w0 w' G (Hj xs.length))

theorem i_range {g : Operand} {p : Tmp} {assign body : Code} {gf : FuncId} {cap : Array Value} (xs : List Value) (Hj : Nat → Hp) (env1 : Nat → Env)
    (hg : ev env g = some (.func (.func gf) #[] cap)) (hen : entersB P gf = true) (hp : p < n) (hit : ItSpec P gf cap G xs)
    (hassign : ∀ (j : Nat) (h : j < xs.length) (l : Nat) (H1 : Hp) (K : Act → World → Prop), Holds n [] w0 (env1 j) G H1 K → Holds n [] w0 ((p, xs[j]) :: env) G H1 (assign.wpIn (FW (some l)) 0 P (Exit.then K (fun _ _ _ => False))))
    (hbody : ∀ (j : Nat) (h : j < xs.length) (l : Nat) (F : Hp), Holds n [] w0 (env1 j) G (Hj j ++ F) (body.wpIn (FW (some l)) 0 P (fun e _ w => e = .normal ∧ Sat w0 w G (Hj (j + 1) ++ F))))
    (k : ∀ D, Holds n ({ target := .collected D, args := #[] } :: ds) w0 env G ((D, .deferred (some [])) :: Hj xs.length) (Q .normal)) :
    Holds n ds w0 env G (Hj 0) ((Code.rangeFunc g #[p] assign body).wpIn (FW none) 0 P Q) := fun a w ht hs => by
  refine wpIn_rangeFunc ?_
  intro fn hfn
  obtain ⟨rec, hrec⟩ : ∃ rec : LoopState → Option Code → Loop, rec = fun st pe => { state := st, pending := pe, fn, tmps := a.tmps, params := #[p], assign, body, defers := w.heap.size } := ⟨_, rfl⟩
  obtain ⟨D, hD⟩ : ∃ D, D = w.heap.size := ⟨_, rfl⟩
  obtain ⟨W1, hW1⟩ : ∃ W1, (w.alloc (.deferred (some []))).alloc (.loop (rec .ready none)) = W1 := ⟨_, rfl⟩
  have hs1 : Sat w0 W1 G ((D + 1, .loop (rec .ready none)) :: (D, .deferred (some [])) :: Hj 0) := by
    rw [← hW1, hD]
    have := (hs.alloc (.deferred (some []))).alloc (.loop (rec .ready none))
    rwa [World.size_alloc] at this
  refine ⟨D + 1, [{ target := .collected D, args := #[] }], W1, { target := .fn (.func gf) cap, args := #[.func (.yield (D + 1)) #[] #[]] }, W1, gf,
    #[.func (.yield (D + 1)) #[] #[]] ++ cap, W1, ?_, ?_, fun _ _ => trivial, ?_, by simp [fw_depth], ?_⟩
  · rw [← hW1, hrec, hD]; exact run_enterLoop_outer _ _ _ _ _
  · have hc : a.eval (.const (.func (.yield (D + 1)) #[] #[])) = .func (.yield (D + 1)) #[] #[] := rfl
    simp [resolve, ht.eval hg, Deferred.ofValue, hc]
  · simp [invoke, enters_run hen]
  · refine (hit (D + 1) w0 (fun j => (D + 1, .loop (rec .ready none)) :: (D, .deferred (some [])) :: Hj j) ?_ W1 hs1).mono ?_
    · intro j hj W hsW
      have hl := hsW.own _ (List.mem_cons_self ..)
      have hy := run_yield (P := P) (args := #[xs[j]]) hl (by rw [hrec]; rfl)
      refine ⟨fn, a.tmps.setIfInBounds p xs[j], assign, body, ?_, roundIn_of_wpIn hfn ?_⟩
      · rw [hrec] at hy; simpa using hy
      · have ht1 : TT { tmps := a.tmps.setIfInBounds p xs[j], defers := [] } n [] ((p, xs[j]) :: env) := by
          have h2 : TT ({ a with defers := [] } : Act) n [] env := ⟨ht.size, rfl, ht.get⟩
          exact h2.put hp xs[j]
        refine hassign j hj (D + 1) _ _ ?_ _ _ ht1 hsW
        intro a1 w1 ht2 hs2
        have hl2 := hs2.own _ (List.mem_cons_self ..)
        have hlt2 := hs2.lt (List.mem_cons_self ..)
        refine ⟨_, run_beginRound hl2 (by rw [hrec]), ?_⟩
        have hs3 := hs2.upd (w' := w1.putObj (D + 1) (.loop { rec .ready none with state := .busy })) (o' := .loop { rec .ready none with state := .busy }) rfl rfl rfl (by simp) (World.putObj_heap_same hlt2) (fun k _ hk => World.putObj_heap_other hk)
        have hs4 : Sat w0 (w1.putObj (D + 1) (.loop { rec .ready none with state := .busy })) G (Hj j ++ [(D + 1, .loop { rec .ready none with state := .busy }), (D, .deferred (some []))]) :=
          hs3.perm (List.perm_append_comm (l₁ := [(D + 1, _), (D, _)]))
        refine wpIn_mono (hbody j hj (D + 1) _ a1 _ ht2 hs4) ?_
        rintro e a3 w3 ⟨rfl, hs5⟩
        have hs6 := hs5.perm (List.perm_append_comm (l₂ := [(D + 1, _), (D, _)]))
        have hl6 := hs6.own _ (List.mem_cons_self ..)
        have hlt6 := hs6.lt (List.mem_cons_self ..)
        have hend := run_endRound (P := P) none hl6
        refine ⟨_, _, hend, rfl, ?_⟩
        have hs7 := hs6.upd (w' := w3.putObj (D + 1) (.loop (rec .ready none))) (o' := .loop (rec .ready none)) rfl rfl rfl (by simp) (World.putObj_heap_same hlt6) (fun k _ hk => World.putObj_heap_other hk)
        rw [hrec] at hs7 ⊢
        exact hs7
    · rintro e W2 ⟨⟨v, rfl⟩, hs2⟩
      have hl2 := hs2.own _ (List.mem_cons_self ..)
      have hlt2 := hs2.lt (List.mem_cons_self ..)
      have hend := run_endLoop (P := P) hl2 (by rw [hrec]; simp)
      refine ⟨_, _, hend, ?_⟩
      have hs3 : ∀ o', Sat w0 (W2.putObj (D + 1) o') G ((D + 1, o') :: (D, .deferred (some [])) :: Hj xs.length) := fun o' => hs2.upd (w' := W2.putObj (D + 1) o') (o' := o') rfl rfl rfl (by simp) (World.putObj_heap_same hlt2) (fun k _ hk => World.putObj_heap_other hk)
      have hnone : (rec .ready none).pending = none := by rw [hrec]
      rw [hnone]
      exact k D _ _ ⟨ht.size, by simp [ht.defers], ht.get⟩ (hs3 _).tl
end
end Go.Proofs.Ytobhlbhklblncaa
