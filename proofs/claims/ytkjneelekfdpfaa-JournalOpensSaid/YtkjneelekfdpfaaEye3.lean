/- The eye's readings. -/
import Derived.Test.YtkjneelekfdpfaaEye2
import Derived.Test.YtkjneelekfdpfaaOps7
namespace Go.Proofs.Ytkjneelekfdpfaa
open Go
set_option linter.unusedVariables false
set_option linter.unusedSimpArgs false
set_option maxHeartbeats 3200000
section
variable {w0 w : World} {G G' : Im} {H H' H1 : Hp} {n d : Nat} {ds : List Deferred} {env : Env} {P : Program} {dst : Option Tmp} {ty : TypeId} {pos : String} {aft : Array Edge} {g : Option (Nat × Bool)}
end
attribute [local irreducible] Code.wp wpList stepK Holds Val wpR Eff Eff0 Code.wpIn wpListIn stepI Exit.then Exit.inBlock bodyPost bodyPostM

/-- A number is read: the answer, what is left, why not. -/
def rNum (xs : List UInt8) (i : Int) : Int × List UInt8 × Int :=
  if ¬ (1 ≤ i ∧ i ≤ 7) then (0, xs, 1) else if xs.length < i.toNat then (0, xs, 2) else ((num (xs.take i.toNat) : Nat), xs.drop i.toNat, 0)
def rRaw (xs : List UInt8) (most : Int) : List UInt8 × List UInt8 × Int :=
  if most < 0 then ([], xs, 1) else if xs.length < 2 then ([], xs, 2) else if most < (num (xs.take 2) : Nat) then ([], xs, 3)
  else if (xs.drop 2).length < num (xs.take 2) then ([], xs, 2) else ((xs.drop 2).take (num (xs.take 2)), (xs.drop 2).drop (num (xs.take 2)), 0)
def rBool (xs : List UInt8) : Bool × List UInt8 × Int := match xs with
  | [] => (false, [], 2)
  | c :: r => if 1 < c.toNat then (false, c :: r, 4) else (decide (c.toNat = 1), r, 0)
def eNum (xs : List UInt8) (bad i : Int) : Int × List UInt8 × Int := if bad ≠ 0 then (0, xs, bad) else rNum xs i
def eRaw (xs : List UInt8) (bad most : Int) : List UInt8 × List UInt8 × Int := if bad ≠ 0 then ([], xs, bad) else rRaw xs most
def eBool (xs : List UInt8) (bad : Int) : Bool × List UInt8 × Int := if bad ≠ 0 then (false, xs, bad) else rBool xs

theorem EB.one {G : Im} {v : Value} {xs : List UInt8} (h : EB G v xs) : v.oneCell' = true := by
  obtain ⟨ad, c, rfl, _⟩ := h
  rfl

abbrev IB (b : Nat) (i : Int) : Nat × Obj := (b, Cs [I64 i] 3)
abbrev BB (b : Nat) (i : Bool) : Nat × Obj := (b, Cs [.bool i] 4)

theorem numStep (ep xb wb eb : Nat) (v : Value) (xs : List UInt8) (i : Int) (w0 : World) (G : Im) (F : Hp) (hv : EB G v xs) :
    Step w0 G (IB xb 0 :: IB wb i :: PB eb ep :: F) ep v 74 #[Pt wb 0, Pt eb 0, Pt xb 0]
      (fun G' v' F' => G' = G ∧ (1 ≤ i ∧ i ≤ 7) ∧ i.toNat ≤ xs.length ∧ EB G v' (xs.drop i.toNat) ∧ F' = IB xb (num (xs.take i.toNat) : Nat) :: IB wb i :: PB eb ep :: F)
      (fun c => ¬ (1 ≤ i ∧ i ≤ 7) ∧ c = 1 ∨ (1 ≤ i ∧ i ≤ 7) ∧ xs.length < i.toNat ∧ c = 2) := by
  intro w C hs
  refine f_enter (vs := [_, _, _]) Try.func74 rfl Try.ntmps74 (by simp) (hs.sub (K := EyO ep v 0 :: IB xb 0 :: IB wb i :: PB eb ep :: (C ++ F)) sbx) ?_
  clear hs
  refine ww ?_
  refine c_cons (s_val (v_load rfl (Cel.tail (Cel.tail (Cel.head rfl))) (by kernel_rfl)) rfl rfl rfl ?_)
  refine c_cons (s_call (xs := [_]) rfl rfl rfl rfl rfl rfl (by kernel_rfl) (fun w hs => emay_c _ _ w _ _ hs) ?_)
  rintro e w' ⟨rfl, hs'⟩; refine a_ret ?_ hs'; clear hs'
  refine ww ?_
  refine c_cond_nd rfl (fun c1 => ?_) (fun c1 => ?_)
  · refine ww ?_
    refine c_cons (s_val (v_build (ps := [_]) #[I64 1] rfl (by kernel_rfl)) rfl rfl rfl ?_)
    refine c_cons (s_val (v_iface rfl (by kernel_rfl)) rfl rfl rfl ?_)
    refine c_cons (s_panic rfl rfl ?_)
    repeat (first | refine x_then_panic ?_ | refine x_block_panic ?_)
    exact f_panic (fun w hs => .inr ⟨v, 1, rfl, .inl ⟨by omega, rfl⟩, hs.sb⟩)
  obtain ⟨i, rfl⟩ : ∃ k : Nat, i = (k : Int) := ⟨i.toNat, by omega⟩
  rw [Int.toNat_natCast] at *
  refine ww ?_
  refine c_cons (s_val (v_load rfl (Cel.tail (Cel.tail (Cel.tail (Cel.head rfl)))) (by kernel_rfl)) rfl rfl rfl ?_)
  refine c_cons (s_val (v_load rfl (Cel.tail (Cel.tail (Cel.head rfl))) (by kernel_rfl)) rfl rfl rfl ?_)
  refine c_cons (s_call (xs := [_, _]) rfl rfl rfl rfl rfl rfl (by kernel_rfl) (fun w hs => number_c ep v 0 xs i (by omega) _ w _ _ hv hs) ?_)
  rintro e w' (⟨hle, v', rfl, hv', hs'⟩ | ⟨hlt, rfl, hs'⟩)
  rotate_left
  · refine a_panic ?_ hs'; clear hs'
    repeat (first | refine x_then_panic ?_ | refine x_block_panic ?_)
    exact f_panic (fun w hs => .inr ⟨v, 2, rfl, .inr ⟨c1, hlt, rfl⟩, hs.sb⟩)
  refine a_ret ?_ hs'; clear hs'
  refine c_cons (s_store1 rfl rfl rfl (.tail .head) (by kernel_rfl) rfl (by simp) ?_)
  refine ww ?_
  exact f_end0 rfl (fun w hs => .inl ⟨G, v', _, _, Im.le_refl _, rfl, ⟨rfl, c1, hle, hv', rfl⟩, (show Sat w0 w G (IB xb _ :: EyO ep v' 0 :: IB wb i :: PB eb ep :: (C ++ F)) from hs).sb⟩)
-- (*pinstripe/wire.Eye).Num
theorem enum_c (ep : Nat) (v : Value) (bad : Int) (xs : List UInt8) (i : Int) (w0 w : World) (G : Im) (F : Hp) (hv : EB G v xs) (hs : Sat w0 w G (EyO ep v bad :: F)) :
    Calls Try.prog 58 #[Pt ep 0, I64 i] w fun e w' => ∃ v', e = .returned (I64 (eNum xs bad i).1) ∧ EB G v' (eNum xs bad i).2.1 ∧ Sat w0 w' G (EyO ep v' (eNum xs bad i).2.2 :: F) := by
  refine f_enter (vs := [_, _]) Try.func58 rfl Try.ntmps58 (by simp) hs ?_
  refine ww ?_
  refine c_cons (s_box rfl rfl rfl fun b1 => ?_)
  refine c_cons (s_box rfl rfl rfl fun b2 => ?_)
  refine ww ?_
  refine c_cons (s_alloc (I64 0) (by kernel_rfl) rfl rfl fun b3 => ?_)
  refine c_cons (s_store1 rfl rfl rfl .head (by kernel_rfl) rfl (by simp [Value.cells]) ?_)
  refine ww ?_
  refine c_cons (s_val (v_load rfl (Cel.tail (Cel.tail (Cel.head rfl))) (by kernel_rfl)) rfl rfl rfl ?_)
  refine ww ?_
  change Holds _ _ _ _ _ (IB b3 0 :: IB b2 i :: PB b1 ep :: EyO ep v bad :: F) _
  refine c_sub (EyO ep v bad :: IB b3 0 :: IB b2 i :: PB b1 ep :: F) sbx ?_
  by_cases hb : bad = 0
  · subst hb
    have he : eNum xs 0 i = rNum xs i := if_neg (by omega)
    rw [he]
    refine c_cons (s_call (xs := [_, _]) rfl rfl rfl rfl rfl rfl (by kernel_rfl) (fun w hs => read_c ep v _ _ _ _ _ w _ _ hv.one (by kernel_rfl) (numStep ep b3 b2 b1 v xs i _ _ F hv) hs) ?_)
    rintro e w' ⟨rfl, (⟨G', v', F', hG', ⟨rfl, h1, h2, h3, rfl⟩, hs'⟩ | ⟨c, hc, hs'⟩)⟩
    · refine a_ret ?_ hs'; clear hs'
      have e1 : rNum xs i = (((num (xs.take i.toNat) : Nat) : Int), xs.drop i.toNat, 0) := by unfold rNum; rw [if_neg (by omega), if_neg (by omega)]
      rw [e1]
      refine ww ?_
      refine c_cons (s_val (v_load rfl (Cel.tail (Cel.head rfl)) (by kernel_rfl)) rfl rfl rfl ?_)
      refine ww ?_
      exact f_ret1 rfl rfl (fun w hs => ⟨v', rfl, h3, hs.sb⟩)
    · refine a_ret ?_ hs'; clear hs'
      have e1 : rNum xs i = (0, xs, c) := by
        unfold rNum
        rcases hc with ⟨h1, rfl⟩ | ⟨h1, h2, rfl⟩
        · rw [if_pos h1]
        · rw [if_neg (by omega), if_pos h2]
      rw [e1]
      refine ww ?_
      refine c_cons (s_val (v_load rfl (Cel.tail (Cel.head rfl)) (by kernel_rfl)) rfl rfl rfl ?_)
      refine ww ?_
      exact f_ret1 rfl rfl (fun w hs => ⟨v, rfl, hv, hs.sb⟩)
  · have he : eNum xs bad i = (0, xs, bad) := if_pos hb
    rw [he]
    refine c_cons (s_call (xs := [_, _]) rfl rfl rfl rfl rfl rfl (by kernel_rfl) (fun w hs => readB_c ep v bad hb _ _ _ w _ _ hs) ?_)
    rintro e w' ⟨rfl, hs'⟩; refine a_ret ?_ hs'; clear hs'
    refine ww ?_
    refine c_cons (s_val (v_load rfl (Cel.tail (Cel.head rfl)) (by kernel_rfl)) rfl rfl rfl ?_)
    refine ww ?_
    exact f_ret1 rfl rfl (fun w hs => ⟨v, rfl, hv, hs.sb⟩)
end Go.Proofs.Ytkjneelekfdpfaa
