/- Slices of records. -/
import Derived.Test.YtkjneelekfdpfaaOps3
import Derived.Test.YtkjneelekfdpfaaRecs
namespace Go.Proofs.Ytkjneelekfdpfaa
open Go
set_option linter.unusedVariables false

/-- v is a slice of the records xs, which nobody writes. -/
def RecV {α : Type} (s : Nat) (R : Im → List Value → α → Prop) (G : Im) (v : Value) (xs : List α) : Prop := ∃ L, SV G [] v xs.length L ∧ Recs s (R G) L xs
/-- What a record says does not go when more is known. -/
def Up {α : Type} (R : Im → List Value → α → Prop) : Prop := ∀ (G G' : Im) c x, Im.le G G' → R G c x → R G' c x
theorem SV.up {G G' : Im} {H : Hp} {v : Value} {k : Nat} {L : List Value} (h : SV G [] v k L) (hG : Im.le G G') : SV G' H v k L := h.mono hG (by simp)
theorem Sat.dropL {w0 w : World} {G : Im} {B F : Hp} (h : Sat w0 w G (B ++ F)) : Sat w0 w G F := (h.perm List.perm_append_comm).drop
theorem Sat.swap {w0 w : World} {G : Im} {x y : Nat × Obj} {F : Hp} (h : Sat w0 w G (x :: y :: F)) : Sat w0 w G (y :: x :: F) := h.perm (List.Perm.swap _ _ _)
theorem SV.full {G : Im} {H : Hp} {ad : Option Addr} {k c : Nat} {L : List Value} (h : SV G H (.slice ad k c) k L) (hL : k = 0 → L = []) : SV G H (.slice ad k k) k L := by
  obtain ⟨_, _, e, h1, h2, h3⟩ := h
  cases e
  refine ⟨ad, k, rfl, Nat.le_refl _, by omega, h3.imp (fun h => ⟨h.1, fun hn => ?_⟩) id⟩
  have := h.2 hn; omega
variable {α : Type} {s : Nat} {R : Im → List Value → α → Prop} {G G' : Im} {v : Value} {xs : List α}
theorem RecV.up (hU : Up R) (h : RecV s R G v xs) (hG : Im.le G G') : RecV s R G' v xs := let ⟨L, h1, h2⟩ := h; ⟨L, h1.up hG, h2.mono fun c x => hU _ _ c x hG⟩
theorem RecV.nil : RecV s R G (.slice none 0 0) [] := ⟨[], SV.nil _ _, Recs.nil⟩
theorem RecV.form (h : RecV s R G v xs) : ∃ ad c, v = .slice ad xs.length c ∧ xs.length ≤ c ∧ c ≤ maxLen := let ⟨L, ⟨ad, c, e, h1, h2, _⟩, _⟩ := h; ⟨ad, c, e, h1, h2⟩
/-- Element j: its cells, where they lie. -/
theorem RecV.at (h : RecV s R G v xs) (hs : 0 < s) (j : Nat) (hj : j < xs.length) : ∃ b o c cells, v = Sl b o xs.length c ∧ R G cells xs[j] ∧ cells.length = s ∧ ∀ (H : Hp) (f : Nat) u, cells[f]? = some u → Cel G H b (o + j * s + f) u := by
  obtain ⟨L, hsv, hr⟩ := h
  obtain ⟨cells, hc, hl, hf⟩ := hr.at j hj
  obtain ⟨ad, c, e, h1, h2, h3⟩ := hsv
  rcases h3 with ⟨h0, _⟩ | ⟨b, o, rfl, hcel⟩
  · have h4 := hr.1
    rw [h0] at h4
    have : 0 < xs.length * s := Nat.mul_pos (by omega) hs
    exact absurd h4.symm (Nat.ne_of_gt this)
  · refine ⟨b, o, c, cells, e, hc, hl, fun H f u hu => ?_⟩
    have hfs : f < s := by rw [← hl]; exact (List.getElem?_eq_some_iff.1 hu).1
    have := hcel (j * s + f) u (by rw [hf f hfs]; exact hu)
    rw [← Nat.add_assoc] at this
    exact this.mono (Im.le_refl G) (by simp)
theorem Split.dropN : ∀ (D F : Hp), ∃ R, Split (D ++ F) F R
  | D, [] => ⟨_, .nil⟩
  | D, (b, o) :: F => by
    obtain ⟨R, h⟩ := Split.dropN D F
    exact ⟨R, .cons (Pick.app .head) rfl h⟩
/-- Blocks in between are let go. -/
theorem Split.mid (B D F : Hp) : ∃ R, Split (B ++ (D ++ F)) (B ++ F) R := let ⟨R, h⟩ := Split.dropN D F; ⟨R, h.appL B⟩
/-- An own slice of records. -/
def ROwn {α : Type} (s : Nat) (R : Im → List Value → α → Prop) (e : TypeId) (G : Im) (v : Value) (xs : List α) (B : Hp) : Prop := ∃ L, Own v xs.length L e s B ∧ Recs s (R G) L xs
theorem ROwn.up {e : TypeId} {B : Hp} (hU : Up R) (h : ROwn s R e G v xs B) (hG : Im.le G G') : ROwn s R e G' v xs B := let ⟨L, h1, h2⟩ := h; ⟨L, h1, h2.mono fun c x => hU _ _ c x hG⟩
theorem ROwn.zero (ad : Option Addr) (e : TypeId) : ROwn s R e G (.slice ad 0 0) [] [] := ⟨[], Own.zero ad e s, Recs.nil⟩
theorem ROwn.form {e : TypeId} {B : Hp} (h : ROwn s R e G v xs B) : ∃ ad c, v = .slice ad xs.length c := let ⟨L, h1, _⟩ := h; h1.form
/-- It can be looked at. -/
def RecH {α : Type} (s : Nat) (R : Im → List Value → α → Prop) (G : Im) (H : Hp) (v : Value) (xs : List α) : Prop := ∃ L, SV G H v xs.length L ∧ Recs s (R G) L xs
theorem RecV.here {H : Hp} (h : RecV s R G v xs) : RecH s R G H v xs := let ⟨L, h1, h2⟩ := h; ⟨L, h1.up (Im.le_refl G), h2⟩
theorem ROwn.here {e : TypeId} {B H : Hp} (h : ROwn s R e G v xs B) (hB : ∀ p, p ∈ B → p ∈ H) : RecH s R G H v xs := let ⟨L, h1, h2⟩ := h; ⟨L, h1.sv hB, h2⟩
theorem RecH.form {H : Hp} (h : RecH s R G H v xs) : ∃ ad c, v = .slice ad xs.length c ∧ xs.length ≤ c ∧ c ≤ maxLen := let ⟨L, ⟨ad, c, e, h1, h2, _⟩, _⟩ := h; ⟨ad, c, e, h1, h2⟩
theorem RecH.at {H : Hp} (h : RecH s R G H v xs) (hs : 0 < s) (j : Nat) (hj : j < xs.length) : ∃ b o c cells, v = Sl b o xs.length c ∧ R G cells xs[j] ∧ cells.length = s ∧ ∀ (f : Nat) u, cells[f]? = some u → Cel G H b (o + j * s + f) u := by
  obtain ⟨L, hsv, hr⟩ := h
  obtain ⟨cells, hc, hl, hf⟩ := hr.at j hj
  obtain ⟨ad, c, e, h1, h2, h3⟩ := hsv
  rcases h3 with ⟨h0, _⟩ | ⟨b, o, rfl, hcel⟩
  · have h4 := hr.1
    rw [h0] at h4
    have : 0 < xs.length * s := Nat.mul_pos (by omega) hs
    exact absurd h4.symm (Nat.ne_of_gt this)
  · refine ⟨b, o, c, cells, e, hc, hl, fun f u hu => ?_⟩
    have hfs : f < s := by rw [← hl]; exact (List.getElem?_eq_some_iff.1 hu).1
    have := hcel (j * s + f) u (by rw [hf f hfs]; exact hu)
    rw [← Nat.add_assoc] at this
    exact this
/-- A drawn region whose quiet operations look at a part of the memory alone. -/
theorem r_startS {w0 : World} {G : Im} {H : Hp} {n : Nat} {ds : List Deferred} {env : Env} {P : Program} {Q : Exit → Act → World → Prop} {id : Nat} {l : List Oper} (H' : Hp) (late : List Nat) (hm : P.follows .mixedOrders = true) (hS : ∀ w, Sat w0 w G H → Sat w0 w G H') (h : Holds n ds w0 env G H (wpR P l.toArray late Q (fun w => Sat w0 w G H') l.length (Array.replicate l.length false))) :
    Holds n ds w0 env G H ((Code.region id l.toArray true).wp P Q) := fun a w ht hs => by
  refine wp_region_any hm ?_
  have := wpAny_of_wpR _ _ _ _ (h a w.drew ht hs.drew)
  simpa using this
/-- []T{} -/
theorem s_lit0 {w0 : World} {G : Im} {H : Hp} {n d : Nat} {ds : List Deferred} {env : Env} {P : Program} {Q : Exit → Act → World → Prop} {K : Act → World → Prop} {ops : Array Oper} {ty : TypeId} {pos : String} {aft : Array Edge} {g : Option (Nat × Bool)}
    {t e : TypeId} {z : Value} {sz bs : Nat} (hm : mkB P t = some (e, z, sz, bs)) (hg : gOn ops env ⟨some d, .buildSlice t 0 #[], ty, pos, aft, g⟩ = some true) (hd : Nat.blt d n = true)
    (hK : ∀ b, Holds n ds w0 ((d, Sl b 0 0 0) :: env) G ((b, Cs [] e) :: H) K) :
    Holds n ds w0 env G H (stepK P ops Q ⟨some d, .buildSlice t 0 #[], ty, pos, aft, g⟩ K) :=
  s_eff (Φ := fun u w' => ∃ b, u = Sl b 0 0 0 ∧ Sat w0 w' G ((b, Cs [] e) :: H)) hg rfl hd (fun a n ds w ht hs => by
    obtain ⟨i, hu, hi, hzero, hsz, _⟩ := mkB_spec hm
    refine ⟨Sl w.heap.size 0 0 0, w.alloc (Cs [] e), ?_, w.heap.size, rfl, hs.alloc _⟩
    have h5 : ∀ f : Nat → Value, (Array.range 0).map f = #[] := fun f => by apply Array.ext'; simp
    simp [execOp, Instr.buildSlice, run_underlying hu, sizeOf, typeInfo, hi, Instr.fill, newRow, h5]) (fun u w' ⟨b, hu, hs⟩ => by subst hu; exact (hK b).atw hs)
end Go.Proofs.Ytkjneelekfdpfaa
