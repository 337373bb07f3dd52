/- A small layer of its own over the plain walk: what the slots hold (an environment), what the heap holds (blocks that never change, and blocks that are owned), one rule for each operation. -/
import Derived.WalkKit
import Derived.WalkSpells
import Derived.WalkLawsBesides
import Derived.OrdersHeld
namespace Go.Proofs.Ytkjneelekfdpfaa
open Go
set_option linter.unusedVariables false
set_option linter.unusedSimpArgs false

/-! ### Slots -/
abbrev Env := List (Nat × Value)

def ev (env : Env) : Operand → Option Value
  | .tmp t => env.lookup t
  | .const v => some v
  | .global g => some (.pointer (some ⟨g, 0, none⟩))
  | .func f => some (.func (.func f) #[] #[])

def evl (env : Env) : List Operand → Option (List Value)
  | [] => some []
  | x :: xs => match ev env x, evl env xs with
    | some v, some vs => some (v :: vs)
    | _, _ => none

structure TT (a : Act) (n : Nat) (ds : List Deferred) (env : Env) : Prop where
  size : a.tmps.size = n
  defers : a.defers = ds
  get : ∀ i v, env.lookup i = some v → a.tmps[i]? = some v

theorem TT.eval {a : Act} {n : Nat} {ds : List Deferred} {env : Env} (h : TT a n ds env) {x : Operand} {v : Value} (hx : ev env x = some v) : a.eval x = v := by
  cases x with
  | tmp t =>
    have h1 := h.get t v hx
    simp [Act.eval, h1]
  | const u => simpa [ev, Act.eval] using hx
  | global g => simpa [ev, Act.eval] using hx
  | func f => simpa [ev, Act.eval] using hx

theorem TT.evall {a : Act} {n : Nat} {ds : List Deferred} {env : Env} (h : TT a n ds env) : ∀ {l : List Operand} {vs : List Value}, evl env l = some vs → l.map a.eval = vs
  | [], vs, hx => by simpa [evl] using hx
  | x :: xs, vs, hx => by
    simp only [evl] at hx
    split at hx
    · rename_i v ws h1 h2
      cases hx
      simp [h.eval h1, h.evall h2]
    · cases hx

theorem TT.put {a : Act} {n : Nat} {ds : List Deferred} {env : Env} (h : TT a n ds env) {d : Nat} (hd : d < n) (v : Value) : TT (a.put (some d) v) n ds ((d, v) :: env) := by
  refine ⟨by simp [Act.put, h.size], h.defers, fun i u hu => ?_⟩
  simp only [List.lookup] at hu
  split at hu
  · rename_i e
    have e' : i = d := by simpa using e
    subst e'
    cases hu
    simp [Act.put, h.size, hd]
  · rename_i e
    have e' : ¬ i = d := by simpa using e
    simp only [Act.put]
    rw [Array.getElem?_setIfInBounds_ne (by omega)]
    exact h.get i u hu

theorem TT.mono {a : Act} {n : Nat} {ds : List Deferred} {env env' : Env} (h : TT a n ds env) (he : ∀ i v, env'.lookup i = some v → env.lookup i = some v) : TT a n ds env' :=
  ⟨h.size, h.defers, fun i v hv => h.get i v (he i v hv)⟩

/-- All that env' says, env says too. -/
def Env.sub (env : Env) : Env → Prop
  | [] => True
  | (i, v) :: r => env.lookup i = some v ∧ Env.sub env r

theorem Env.sub_spec {env : Env} : ∀ {env' : Env}, Env.sub env env' → ∀ i v, env'.lookup i = some v → env.lookup i = some v
  | [], _, i, v, h => by cases h
  | (j, u) :: r, hs, i, v, h => by
    simp only [List.lookup] at h
    split at h
    · rename_i e
      have e' : i = j := by simpa using e
      cases h; subst e'; exact hs.1
    · exact Env.sub_spec hs.2 i v h

/-! ### The heap -/
abbrev Hp := List (Nat × Obj)
abbrev Im := Nat → Option Obj

def Im.le (G G' : Im) : Prop := ∀ b o, G b = some o → G' b = some o
theorem Im.le_refl (G : Im) : Im.le G G := fun _ _ h => h
theorem Im.le.trans {A B C : Im} (h : Im.le A B) (k : Im.le B C) : Im.le A C := fun b o hb => k b o (h b o hb)

structure Sat (w0 w : World) (G : Im) (H : Hp) : Prop where
  os : w.os = w0.os
  tape : w.tape = w0.tape
  output : w.output = w0.output
  size : w0.heap.size ≤ w.heap.size
  imm : ∀ b o, G b = some o → w.heap[b]? = some o
  own : ∀ p, p ∈ H → w.heap[p.1]? = some p.2
  sep : ∀ p, p ∈ H → G p.1 = none
  nodup : (H.map Prod.fst).Nodup

variable {w0 w : World} {G G' : Im} {H H' K R : Hp}

theorem Sat.perm (h : Sat w0 w G H) (hp : H.Perm H') : Sat w0 w G H' :=
  ⟨h.os, h.tape, h.output, h.size, h.imm, fun p hm => h.own p (hp.mem_iff.2 hm), fun p hm => h.sep p (hp.mem_iff.2 hm), (hp.map Prod.fst).nodup_iff.1 h.nodup⟩

theorem Sat.drop (h : Sat w0 w G (K ++ R)) : Sat w0 w G K :=
  ⟨h.os, h.tape, h.output, h.size, h.imm, fun p hm => h.own p (List.mem_append_left _ hm), fun p hm => h.sep p (List.mem_append_left _ hm), by
    have h1 := h.nodup
    rw [List.map_append] at h1
    exact (List.nodup_append.1 h1).1⟩

theorem Sat.tl {x : Nat × Obj} (h : Sat w0 w G (x :: H)) : Sat w0 w G H :=
  ⟨h.os, h.tape, h.output, h.size, h.imm, fun p hm => h.own p (List.mem_cons_of_mem _ hm), fun p hm => h.sep p (List.mem_cons_of_mem _ hm), (List.nodup_cons.1 h.nodup).2⟩

theorem Sat.weaken (hG : Im.le G G') (h : Sat w0 w G' H) : Sat w0 w G H := by
  refine ⟨h.os, h.tape, h.output, h.size, fun b o hb => h.imm b o (hG b o hb), h.own, fun p hm => ?_, h.nodup⟩
  cases hg : G p.1 with
  | none => rfl
  | some o => exact absurd ((hG _ _ hg).symm.trans (h.sep p hm)) (by simp)

theorem Sat.of_heap {w' : World} (h : Sat w0 w G H) (e1 : w'.os = w.os) (e2 : w'.tape = w.tape) (e3 : w'.output = w.output) (e4 : w'.heap = w.heap) : Sat w0 w' G H :=
  ⟨e1.trans h.os, e2.trans h.tape, e3.trans h.output, by rw [e4]; exact h.size, fun b o hb => by rw [e4]; exact h.imm b o hb, fun p hm => by rw [e4]; exact h.own p hm, h.sep, h.nodup⟩

theorem Sat.drew (h : Sat w0 w G H) : Sat w0 w.drew G H := h.of_heap rfl rfl rfl rfl

theorem Sat.lt (h : Sat w0 w G H) {p : Nat × Obj} (hm : p ∈ H) : p.1 < w.heap.size := (Array.getElem?_eq_some_iff.1 (h.own p hm)).1

theorem Sat.alloc (h : Sat w0 w G H) (o : Obj) : Sat w0 (w.alloc o) G ((w.heap.size, o) :: H) := by
  have old : ∀ k, k < w.heap.size → (w.alloc o).heap[k]? = w.heap[k]? := fun k hk => Go.RowKit.Below.heap_alloc w o k hk
  refine ⟨h.os, h.tape, h.output, ?_, fun b q hb => ?_, fun p hm => ?_, fun p hm => ?_, ?_⟩
  · have := h.size; rw [World.size_alloc]; omega
  · have := h.imm b q hb; rw [old b (Array.getElem?_eq_some_iff.1 this).1]; exact this
  · rcases List.mem_cons.1 hm with rfl | hm
    · exact heap_alloc_new w o
    · rw [old _ (h.lt hm)]; exact h.own p hm
  · rcases List.mem_cons.1 hm with rfl | hm
    · cases hg : G w.heap.size with
      | none => rfl
      | some q => have := (Array.getElem?_eq_some_iff.1 (h.imm _ _ hg)).1; exact absurd this (Nat.lt_irrefl _)
    · exact h.sep p hm
  · simp only [List.map_cons, List.nodup_cons]
    refine ⟨fun hm => ?_, h.nodup⟩
    obtain ⟨p, hp, he⟩ := List.mem_map.1 hm
    have := h.lt hp
    rw [he] at this
    exact absurd this (Nat.lt_irrefl _)

/-- One owned block is written. -/
theorem Sat.upd {b : Nat} {o o' : Obj} (h : Sat w0 w G ((b, o) :: H)) {w' : World} (e1 : w'.os = w.os) (e2 : w'.tape = w.tape) (e3 : w'.output = w.output) (e4 : w.heap.size ≤ w'.heap.size)
    (hb : w'.heap[b]? = some o') (ho : ∀ k, k < w.heap.size → k ≠ b → w'.heap[k]? = w.heap[k]?) : Sat w0 w' G ((b, o') :: H) := by
  have hnd := h.nodup
  simp only [List.map_cons, List.nodup_cons] at hnd
  have hne : ∀ p, p ∈ H → p.1 ≠ b := fun p hp e => hnd.1 (by rw [← e]; exact List.mem_map_of_mem hp)
  have hgb := h.sep (b, o) (List.mem_cons_self ..)
  refine ⟨e1.trans h.os, e2.trans h.tape, e3.trans h.output, Nat.le_trans h.size e4, fun k q hk => ?_, fun p hm => ?_, fun p hm => ?_, ?_⟩
  · have hi := h.imm k q hk
    rw [ho k (Array.getElem?_eq_some_iff.1 hi).1 (fun e => by subst e; rw [hk] at hgb; cases hgb)]; exact hi
  · rcases List.mem_cons.1 hm with rfl | hm
    · exact hb
    · have hi := h.own p (List.mem_cons_of_mem _ hm)
      rw [ho _ (Array.getElem?_eq_some_iff.1 hi).1 (hne p hm)]; exact hi
  · rcases List.mem_cons.1 hm with rfl | hm
    · exact hgb
    · exact h.sep p (List.mem_cons_of_mem _ hm)
  · simp only [List.map_cons, List.nodup_cons]; exact hnd

/-- An owned block is given up for good: from now on nobody writes it. -/
def Im.add (G : Im) (b : Nat) (o : Obj) : Im := fun k => if k = b then some o else G k
theorem Im.le_add {b : Nat} {o : Obj} (h : G b = none) : Im.le G (G.add b o) := fun k q hk => by
  unfold Im.add
  by_cases e : k = b
  · subst e; rw [h] at hk; cases hk
  · rw [if_neg e]; exact hk
theorem Im.add_self (G : Im) (b : Nat) (o : Obj) : G.add b o b = some o := by simp [Im.add]

theorem Sat.freeze {b : Nat} {o : Obj} (h : Sat w0 w G ((b, o) :: H)) : Sat w0 w (G.add b o) H := by
  have hnd := h.nodup
  simp only [List.map_cons, List.nodup_cons] at hnd
  refine ⟨h.os, h.tape, h.output, h.size, fun k q hk => ?_, fun p hm => h.own p (List.mem_cons_of_mem _ hm), fun p hm => ?_, hnd.2⟩
  · unfold Im.add at hk
    split at hk
    · rename_i e; cases hk; subst e; exact h.own _ (List.mem_cons_self ..)
    · exact h.imm k q hk
  · unfold Im.add
    rw [if_neg (fun e => hnd.1 (by rw [← e]; exact List.mem_map_of_mem hm))]
    exact h.sep p (List.mem_cons_of_mem _ hm)

/-! ### Taking blocks out of the list -/
inductive Pick (b : Nat) (o : Obj) : Hp → Hp → Prop
  | head {H : Hp} : Pick b o ((b, o) :: H) H
  | tail {x : Nat × Obj} {H H' : Hp} : Pick b o H H' → Pick b o (x :: H) (x :: H')

theorem Pick.perm {b : Nat} {o : Obj} {H H' : Hp} (h : Pick b o H H') : H.Perm ((b, o) :: H') := by
  induction h with
  | head => exact .refl _
  | tail _ ih => exact (ih.cons _).trans (.swap ..)

/-- 'Split H K R': H is K and R. -/
inductive Split : Hp → Hp → Hp → Prop
  | nil {H : Hp} : Split H [] H
  | cons {b : Nat} {o o' : Obj} {H H1 K R : Hp} : Pick b o H H1 → o = o' → Split H1 K R → Split H ((b, o') :: K) R

theorem Split.refl : ∀ (H : Hp), Split H H []
  | [] => .nil
  | (b, o) :: H => .cons .head rfl (Split.refl H)
theorem Split.rest : ∀ (H : Hp), Split H [] H := fun _ => .nil
theorem Split.perm {H K R : Hp} (h : Split H K R) : H.Perm (K ++ R) := by
  induction h with
  | nil => exact .refl _
  | cons hp he _ ih => subst he; exact hp.perm.trans (ih.cons _)

theorem Sat.split (h : Sat w0 w G H) (hs : Split H K R) : Sat w0 w G (K ++ R) := h.perm hs.perm
theorem Sat.only (h : Sat w0 w G H) (hs : Split H K R) : Sat w0 w G K := (h.split hs).drop

/-- The first block, and what lies behind the next two. -/
theorem Sat.only2 {x y z : Nat × Obj} (h : Sat w0 w G (x :: y :: z :: H)) : Sat w0 w G (x :: H) :=
  (h.perm ((List.Perm.swap y x _).trans ((List.Perm.cons y (List.Perm.swap z x _))))).tl.tl

/-- What a reader may look at: a block that never changes, or an owned one. -/
def Has (G : Im) (H : Hp) (b : Nat) (o : Obj) : Prop := G b = some o ∨ (b, o) ∈ H
theorem Has.heap {b : Nat} {o : Obj} (h : Has G H b o) (hs : Sat w0 w G H) : w.heap[b]? = some o := h.elim (hs.imm b o) (hs.own (b, o))
theorem Has.of_imm {b : Nat} {o : Obj} (h : G b = some o) : Has G H b o := .inl h
theorem Has.head {b : Nat} {o : Obj} : Has G ((b, o) :: H) b o := .inr (List.mem_cons_self ..)
theorem Has.tail {b : Nat} {o : Obj} {x : Nat × Obj} (h : Has G H b o) : Has G (x :: H) b o := h.imp id (List.mem_cons_of_mem _)
theorem Has.le {b : Nat} {o : Obj} (h : Has G [] b o) (hG : Im.le G G') : Has G' H b o := .inl (hG b o (h.resolve_right (by simp)))

/-- A cell that may be looked at. -/
def Cel (G : Im) (H : Hp) (b o : Nat) (v : Value) : Prop := ∃ c t fz, Has G H b (.cells c t fz) ∧ c[o]? = some v
theorem Cel.cell {b o : Nat} {v : Value} (h : Cel G H b o v) (hs : Sat w0 w G H) : w.cell? ⟨b, o, none⟩ = some v := by
  obtain ⟨c, t, fz, hb, hv⟩ := h
  rw [cell_of_row w b o _ _ _ (hb.heap hs)]; exact hv
theorem Cel.head {b o : Nat} {v : Value} {L : List Value} {t : TypeId} (hv : L[o]? = some v) : Cel G ((b, .cells L.toArray t (0, 0)) :: H) b o v := ⟨_, _, _, .head, by simpa using hv⟩
theorem Cel.tail {b o : Nat} {v : Value} {x : Nat × Obj} (h : Cel G H b o v) : Cel G (x :: H) b o v := let ⟨c, t, fz, hb, hv⟩ := h; ⟨c, t, fz, hb.tail, hv⟩
theorem Cel.imm {b o : Nat} {v : Value} {L : List Value} {t : TypeId} (hb : G b = some (.cells L.toArray t (0, 0))) (hv : L[o]? = some v) : Cel G H b o v := ⟨_, _, _, .inl hb, by simpa using hv⟩
theorem Has.mono {b : Nat} {o : Obj} (h : Has G H b o) (hG : Im.le G G') (hH : ∀ p, p ∈ H → p ∈ H') : Has G' H' b o := h.imp (hG b o) (hH _)
theorem Cel.mono {b o : Nat} {v : Value} (h : Cel G H b o v) (hG : Im.le G G') (hH : ∀ p, p ∈ H → p ∈ H') : Cel G' H' b o v := let ⟨c, t, fz, hb, hv⟩ := h; ⟨c, t, fz, hb.mono hG hH, hv⟩

/-- A slice of k elements whose cells, one behind the other, are L. -/
def SV (G : Im) (H : Hp) (v : Value) (k : Nat) (L : List Value) : Prop :=
  ∃ ad cap, v = .slice ad k cap ∧ k ≤ cap ∧ cap ≤ maxLen ∧ ((L = [] ∧ (ad = none → cap = 0)) ∨ ∃ b o, ad = some ⟨b, o, none⟩ ∧ ∀ (j : Nat) u, L[j]? = some u → Cel G H b (o + j) u)
theorem SV.mono {v : Value} {k : Nat} {L : List Value} (h : SV G H v k L) (hG : Im.le G G') (hH : ∀ p, p ∈ H → p ∈ H') : SV G' H' v k L := by
  obtain ⟨ad, cap, hv, h1, h2, h3⟩ := h
  refine ⟨ad, cap, hv, h1, h2, h3.imp id ?_⟩
  rintro ⟨b, o, ha, hc⟩
  exact ⟨b, o, ha, fun j u hj => (hc j u hj).mono hG hH⟩
theorem SV.form {v : Value} {k : Nat} {L : List Value} (h : SV G H v k L) : ∃ ad c, v = .slice ad k c := let ⟨ad, c, hv, _⟩ := h; ⟨ad, c, hv⟩
/-- The whole of a block. -/
theorem SV.block {b k : Nat} {L : List Value} {t : TypeId} (hb : Has G H b (.cells L.toArray t (0, 0))) (hk : k ≤ maxLen) : SV G H (.slice (some ⟨b, 0, none⟩) k k) k L :=
  ⟨_, k, rfl, Nat.le_refl _, hk, .inr ⟨b, 0, rfl, fun j u hj => ⟨_, _, _, hb, by simpa using hj⟩⟩⟩
theorem SV.nil (G : Im) (H : Hp) : SV G H (.slice none 0 0) 0 [] := ⟨none, 0, rfl, Nat.le_refl _, by simp [maxLen], .inl ⟨rfl, fun _ => rfl⟩⟩
theorem mem_cons_of {x : Nat × Obj} : ∀ p, p ∈ H → p ∈ x :: H := fun p hp => List.mem_cons_of_mem _ hp

/-! ### States and what follows -/
def Holds (n : Nat) (ds : List Deferred) (w0 : World) (env : Env) (G : Im) (H : Hp) (R : Act → World → Prop) : Prop := ∀ a w, TT a n ds env → Sat w0 w G H → R a w
def HoldsW (n : Nat) (ds : List Deferred) (env : Env) (w : World) (R : Act → World → Prop) : Prop := ∀ a, TT a n ds env → R a w

section rules
variable {n : Nat} {ds : List Deferred} {env : Env} {P : Program} {Q : Exit → Act → World → Prop} {R : Act → World → Prop}

theorem Holds.atw (h : Holds n ds w0 env G H R) (hs : Sat w0 w G H) : HoldsW n ds env w R := fun a ht => h a w ht hs

theorem c_env (env' : Env) (he : Env.sub env env') (h : Holds n ds w0 env' G H R) : Holds n ds w0 env G H R := fun a w ht hs => h a w (ht.mono (Env.sub_spec he)) hs
theorem c_heap (K : Hp) {R' : Hp} (hsp : Split H K R') (h : Holds n ds w0 env G K R) : Holds n ds w0 env G H R := fun a w ht hs => h a w ht (hs.only hsp)
theorem c_freeze {b : Nat} {o : Obj} {H' : Hp} (hp : Pick b o H H') (h : ∀ G', Im.le G G' → G' b = some o → Holds n ds w0 env G' H' R) : Holds n ds w0 env G H R := fun a w ht hs => by
  have hs' := hs.perm hp.perm
  exact h _ (Im.le_add (hs'.sep _ (List.mem_cons_self ..))) (Im.add_self G b o) a w ht hs'.freeze

theorem c_seq {x y : Code} (h : Holds n ds w0 env G H (x.wp P (Exit.then (y.wp P Q) Q))) : Holds n ds w0 env G H ((Code.seq x y).wp P Q) := fun a w ht hs => wp_seq (h a w ht hs)
theorem c_skip (h : Holds n ds w0 env G H (Q .normal)) : Holds n ds w0 env G H (Code.skip.wp P Q) := fun a w ht hs => wp_skip (h a w ht hs)
theorem c_ret (h : Holds n ds w0 env G H (Q .ret)) : Holds n ds w0 env G H (Code.ret.wp P Q) := fun a w ht hs => wp_ret (h a w ht hs)
theorem c_exit {id : Nat} (h : Holds n ds w0 env G H (Q (.exit id))) : Holds n ds w0 env G H ((Code.exit id).wp P Q) := fun a w ht hs => wp_exit (h a w ht hs)
theorem c_block {id : Nat} {c : Code} (h : Holds n ds w0 env G H (c.wp P (Exit.inBlock id Q))) : Holds n ds w0 env G H ((Code.block id c).wp P Q) := fun a w ht hs => wp_block (h a w ht hs)
theorem c_region {id : Nat} {l : List Oper} (h : Holds n ds w0 env G H (wpList P l.toArray Q l)) : Holds n ds w0 env G H ((Code.region id l.toArray false).wp P Q) := fun a w ht hs => wp_region_lit (h a w ht hs)
theorem c_nil {ops : Array Oper} (h : Holds n ds w0 env G H (Q .normal)) : Holds n ds w0 env G H (wpList P ops Q []) := fun a w ht hs => wpList_nil (h a w ht hs)
theorem c_cond {c : Operand} {x y : Code} {β : Bool} (hc : ev env c = some (.bool β)) (h1 : β = true → Holds n ds w0 env G H (x.wp P Q)) (h2 : β = false → Holds n ds w0 env G H (y.wp P Q)) : Holds n ds w0 env G H ((Code.cond c x y).wp P Q) :=
  fun a w ht hs => wp_cond_split (ht.eval hc) (fun e => h1 e a w ht hs) (fun e => h2 e a w ht hs)
theorem c_cond_t {c : Operand} {x y : Code} (hc : ev env c = some (.bool true)) (h1 : Holds n ds w0 env G H (x.wp P Q)) : Holds n ds w0 env G H ((Code.cond c x y).wp P Q) :=
  fun a w ht hs => wp_cond_true (ht.eval hc) (h1 a w ht hs)
theorem c_cond_f {c : Operand} {x y : Code} (hc : ev env c = some (.bool false)) (h1 : Holds n ds w0 env G H (y.wp P Q)) : Holds n ds w0 env G H ((Code.cond c x y).wp P Q) :=
  fun a w ht hs => wp_cond_false (ht.eval hc) (h1 a w ht hs)

/-! exits -/
theorem x_then {nx : Act → World → Prop} (h : Holds n ds w0 env G H nx) : Holds n ds w0 env G H (Exit.then nx Q .normal) := h
theorem x_then_exit {nx : Act → World → Prop} {id : Nat} (h : Holds n ds w0 env G H (Q (.exit id))) : Holds n ds w0 env G H (Exit.then nx Q (.exit id)) := h
theorem x_then_ret {nx : Act → World → Prop} (h : Holds n ds w0 env G H (Q .ret)) : Holds n ds w0 env G H (Exit.then nx Q .ret) := h
theorem x_then_panic {nx : Act → World → Prop} {ch : List PanicEntry} (h : Holds n ds w0 env G H (Q (.panic ch))) : Holds n ds w0 env G H (Exit.then nx Q (.panic ch)) := h
theorem x_block {id : Nat} (h : Holds n ds w0 env G H (Q .normal)) : Holds n ds w0 env G H (Exit.inBlock id Q .normal) := h
theorem x_block_ret {id : Nat} (h : Holds n ds w0 env G H (Q .ret)) : Holds n ds w0 env G H (Exit.inBlock id Q .ret) := h
theorem x_block_panic {id : Nat} {ch : List PanicEntry} (h : Holds n ds w0 env G H (Q (.panic ch))) : Holds n ds w0 env G H (Exit.inBlock id Q (.panic ch)) := h
theorem x_block_eq {id : Nat} (h : Holds n ds w0 env G H (Q .normal)) : Holds n ds w0 env G H (Exit.inBlock id Q (.exit id)) := fun a w ht hs => by
  simp only [Exit.inBlock, if_true]; exact h a w ht hs
theorem x_block_ne {id id' : Nat} (hne : (id' == id) = false) (h : Holds n ds w0 env G H (Q (.exit id'))) : Holds n ds w0 env G H (Exit.inBlock id Q (.exit id')) := fun a w ht hs => by
  have : ¬ id' = id := by simpa using hne
  simp only [Exit.inBlock, if_neg this]; exact h a w ht hs

/-- A loop: at each head the slots and the heap are as 'env' and 'hp' say of some x, at which 'inv' holds; each round lowers 'mu'. -/
theorem c_loop {α : Type} {c : Code} (env' : α → Env) (G' : α → Im) (H' : α → Hp) (inv : α → Prop) (mu : α → Nat) (x0 : α) (h0 : inv x0)
    (start : Holds n ds w0 env G H (fun a w => TT a n ds (env' x0) ∧ Sat w0 w (G' x0) (H' x0)))
    (round : ∀ x, inv x → Holds n ds w0 (env' x) (G' x) (H' x) (c.wp P (Exit.then (fun a w => ∃ y, inv y ∧ mu y < mu x ∧ TT a n ds (env' y) ∧ Sat w0 w (G' y) (H' y)) Q))) :
    Holds n ds w0 env G H ((Code.loop c).wp P Q) := by
  intro a w ht hs b k cs
  have key : ∀ m x, mu x = m → inv x → ∀ a w, TT a n ds (env' x) → Sat w0 w (G' x) (H' x) →
      ∃ e a' w', Q e a' w' ∧ Arrives P (lone (b.at a (.code c :: .inLoop c :: k)) cs w) b k cs e a' w' := by
    intro m
    induction m using Nat.strongRecOn with
    | _ m ih =>
      intro x hm hx a w ht hs
      obtain ⟨e, a₁, w₁, hq, harr⟩ := round x hx a w ht hs b (.inLoop c :: k) cs
      cases e with
      | normal =>
        obtain ⟨y, hy, hlt, ht1, hs1⟩ := hq
        obtain ⟨e₂, a₂, w₂, hq₂, harr₂⟩ := ih (mu y) (hm ▸ hlt) y rfl hy a₁ w₁ ht1 hs1
        exact ⟨e₂, a₂, w₂, hq₂, .of_steps (Steps.trans harr (.one step_inLoop)) harr₂⟩
      | exit id => exact ⟨_, a₁, w₁, hq, .pass (x := .inLoop c) rfl (fun _ _ => .inl (by simp)) harr⟩
      | goto l => exact ⟨_, a₁, w₁, hq, .pass (x := .inLoop c) rfl (fun _ _ => .inl (by simp)) harr⟩
      | ret => exact ⟨_, a₁, w₁, hq, .pass (x := .inLoop c) rfl (fun _ _ => .inl (by simp)) harr⟩
      | panic ch => exact ⟨_, a₁, w₁, hq, .pass (x := .inLoop c) rfl (fun _ _ => .inl (by simp)) harr⟩
      | outgrown => exact ⟨_, a₁, w₁, hq, .pass (x := .inLoop c) rfl (fun _ _ => .inl (by simp)) harr⟩
  obtain ⟨ht1, hs1⟩ := start a w ht hs
  obtain ⟨e, a', w', hq, harr⟩ := key _ x0 rfl h0 a w ht1 hs1
  exact ⟨e, a', w', hq, .of_steps (.one step_loop) harr⟩
end rules
/-! ### The walk's steps, tried one after the other -/
/-- What is left to show (wrapped, so that omega does not look at it). -/
structure Wr (T : Prop) : Prop where
  out : T
theorem ww {S T : Prop} (k : T) (h : Wr T → S := by (intro k; (repeat (first | (refine c_cons ?_; first | refine s_val (by first | exact v_move rfl | exact v_assign rfl | exact v_len rfl (by kernel_rfl) | exact v_lss rfl rfl | exact v_neq rfl rfl | exact v_eql rfl rfl | exact v_gtr rfl rfl | exact v_leq rfl rfl | exact v_geq rfl rfl | exact v_add rfl rfl (by omega) | exact v_sub rfl rfl (by omega) | exact v_not rfl | exact v_pick_t rfl rfl | exact v_pick_f rfl rfl | exact v_xor8 rfl rfl | exact v_makeFunc rfl rfl | exact v_extract rfl rfl | exact v_nilCheck rfl | exact v_max rfl rfl | exact v_min rfl rfl | exact v_eqb_same rfl rfl (by kernel_rfl) | exact v_eqb rfl rfl (by kernel_rfl) | exact v_u8int rfl (by kernel_rfl) (by kernel_rfl) | exact v_eqnilP rfl rfl (by kernel_rfl) | exact v_neqnilP rfl rfl (by kernel_rfl) | exact v_eqnilS rfl rfl (by kernel_rfl)) rfl rfl rfl ?_ | refine s_skip rfl rfl rfl ?_ | refine s_skip0 rfl rfl ?_) | refine c_nil ?_ | refine c_seq ?_ | refine c_region ?_ | refine c_block ?_ | refine c_skip ?_ | refine c_exit ?_ | refine c_ret ?_ | refine x_then ?_ | refine x_block ?_ | refine x_then_exit ?_ | refine x_then_ret ?_ | refine x_block_ret ?_ | refine x_block_eq ?_ | refine x_block_ne rfl ?_)); exact k.out)) : S := h ⟨k⟩
theorem wn {S T : Prop} (k : T) (h : Wr T → S := by (intro k; (repeat (first | (refine c_cons ?_; first | refine s_val (by first | exact v_move rfl | exact v_assign rfl | exact v_len rfl (by kernel_rfl) | exact v_lss rfl rfl | exact v_neq rfl rfl | exact v_eql rfl rfl | exact v_gtr rfl rfl | exact v_leq rfl rfl | exact v_geq rfl rfl | exact v_add rfl rfl (by omega) | exact v_sub rfl rfl (by omega) | exact v_not rfl | exact v_pick_t rfl rfl | exact v_pick_f rfl rfl | exact v_xor8 rfl rfl | exact v_makeFunc rfl rfl | exact v_extract rfl rfl | exact v_nilCheck rfl | exact v_max rfl rfl | exact v_min rfl rfl | exact v_eqb_same rfl rfl (by kernel_rfl) | exact v_eqb rfl rfl (by kernel_rfl) | exact v_u8int rfl (by kernel_rfl) (by kernel_rfl) | exact v_eqnilP rfl rfl (by kernel_rfl) | exact v_neqnilP rfl rfl (by kernel_rfl) | exact v_eqnilS rfl rfl (by kernel_rfl)) rfl rfl rfl ?_ | refine s_skip rfl rfl rfl ?_ | refine s_skip0 rfl rfl ?_) | refine c_nil ?_ | refine c_region ?_ | refine c_block ?_ | refine c_skip ?_ | refine c_exit ?_ | refine c_ret ?_ | refine x_then ?_ | refine x_block ?_ | refine x_then_exit ?_ | refine x_then_ret ?_ | refine x_block_ret ?_ | refine x_block_eq ?_ | refine x_block_ne rfl ?_)); exact k.out)) : S := h ⟨k⟩
theorem we {S T : Prop} (k : T) (h : Wr T → S := by (intro k; (repeat (first | (refine c_cons ?_; first | refine s_val (by first | exact v_eql_same rfl rfl | exact v_move rfl | exact v_assign rfl | exact v_len rfl (by kernel_rfl) | exact v_lss rfl rfl | exact v_neq rfl rfl | exact v_eql rfl rfl | exact v_gtr rfl rfl | exact v_leq rfl rfl | exact v_geq rfl rfl | exact v_add rfl rfl (by omega) | exact v_sub rfl rfl (by omega) | exact v_not rfl | exact v_pick_t rfl rfl | exact v_pick_f rfl rfl | exact v_xor8 rfl rfl | exact v_makeFunc rfl rfl | exact v_extract rfl rfl | exact v_nilCheck rfl | exact v_max rfl rfl | exact v_min rfl rfl | exact v_eqb_same rfl rfl (by kernel_rfl) | exact v_eqb rfl rfl (by kernel_rfl) | exact v_u8int rfl (by kernel_rfl) (by kernel_rfl) | exact v_eqnilP rfl rfl (by kernel_rfl) | exact v_neqnilP rfl rfl (by kernel_rfl) | exact v_eqnilS rfl rfl (by kernel_rfl)) rfl rfl rfl ?_ | refine s_skip rfl rfl rfl ?_ | refine s_skip0 rfl rfl ?_) | refine c_nil ?_ | refine c_seq ?_ | refine c_region ?_ | refine c_block ?_ | refine c_skip ?_ | refine c_exit ?_ | refine c_ret ?_ | refine x_then ?_ | refine x_block ?_ | refine x_then_exit ?_ | refine x_then_ret ?_ | refine x_block_ret ?_ | refine x_block_eq ?_ | refine x_block_ne rfl ?_)); exact k.out)) : S := h ⟨k⟩
theorem wi {S T : Prop} (k : T) (h : Wr T → S := by (intro k; (repeat (first | (refine i_cons ?_; first | refine i_val (v_move rfl) rfl rfl rfl rfl ?_ | refine i_val (v_assign rfl) rfl rfl rfl rfl ?_ | refine i_val (v_len rfl (by kernel_rfl)) rfl rfl rfl rfl ?_ | refine i_val (v_lss rfl rfl) rfl rfl rfl rfl ?_ | refine i_val (v_neq rfl rfl) rfl rfl rfl rfl ?_ | refine i_val (v_eql rfl rfl) rfl rfl rfl rfl ?_ | refine i_val (v_gtr rfl rfl) rfl rfl rfl rfl ?_ | refine i_val (v_leq rfl rfl) rfl rfl rfl rfl ?_ | refine i_val (v_geq rfl rfl) rfl rfl rfl rfl ?_ | refine i_val (v_add rfl rfl (by omega)) rfl rfl rfl rfl ?_ | refine i_val (v_sub rfl rfl (by omega)) rfl rfl rfl rfl ?_ | refine i_val (v_not rfl) rfl rfl rfl rfl ?_ | refine i_val (v_pick_t rfl rfl) rfl rfl rfl rfl ?_ | refine i_val (v_pick_f rfl rfl) rfl rfl rfl rfl ?_ | refine i_val (v_xor8 rfl rfl) rfl rfl rfl rfl ?_ | refine i_val (v_makeFunc rfl rfl) rfl rfl rfl rfl ?_ | refine i_val (v_extract rfl rfl) rfl rfl rfl rfl ?_ | refine i_val (v_nilCheck rfl) rfl rfl rfl rfl ?_ | refine i_val (v_max rfl rfl) rfl rfl rfl rfl ?_ | refine i_val (v_min rfl rfl) rfl rfl rfl rfl ?_ | refine i_val (v_eqb_same rfl rfl (by kernel_rfl)) rfl rfl rfl rfl ?_ | refine i_val (v_eqb rfl rfl (by kernel_rfl)) rfl rfl rfl rfl ?_ | refine i_val (v_u8int rfl (by kernel_rfl) (by kernel_rfl)) rfl rfl rfl rfl ?_ | refine i_val (v_eqnilP rfl rfl (by kernel_rfl)) rfl rfl rfl rfl ?_ | refine i_val (v_neqnilP rfl rfl (by kernel_rfl)) rfl rfl rfl rfl ?_ | refine i_val (v_eqnilS rfl rfl (by kernel_rfl)) rfl rfl rfl rfl ?_ | refine i_gskip rfl rfl rfl ?_ | refine i_gskip0 rfl rfl ?_) | refine i_nil ?_ | refine i_seq ?_ | refine i_region ?_ | refine i_block ?_ | refine i_skip ?_ | refine i_exit ?_ | refine i_ret ?_ | refine x_then ?_ | refine x_block ?_ | refine x_then_exit ?_ | refine x_then_ret ?_ | refine x_block_ret ?_ | refine x_block_eq ?_ | refine x_block_ne rfl ?_)); exact k.out)) : S := h ⟨k⟩
end Go.Proofs.Ytkjneelekfdpfaa
