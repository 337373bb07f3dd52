/- The walks of package parity, second part: folding over rows; Xor. -/
import Derived.Test.YtldkldmjcacopaaParW1
namespace Go.Proofs.Ytldkldmjcacopaa
open Go
set_option linter.unusedVariables false
set_option maxHeartbeats 400000
attribute [local irreducible] Code.wp wpList stepK Holds Val wpR Eff Eff0 Code.wpIn wpListIn stepI Exit.then Exit.inBlock bodyPost bodyPostM

/-- The values xs are the rows rs, which nobody writes. -/
def Items (G : Im) (xs : List Value) (rs : List (List UInt8)) : Prop := xs.length = rs.length ∧ ∀ (j : Nat) x r, xs[j]? = some x → rs[j]? = some r → SV G [] x r.length (r.map B8)
theorem Items.mono {G G' : Im} {xs : List Value} {rs : List (List UInt8)} (h : Items G xs rs) (hG : Im.le G G') : Items G' xs rs := ⟨h.1, fun j x r hx hr => (h.2 j x r hx hr).mono hG (fun _ hp => hp)⟩
theorem Items.at {G : Im} {xs : List Value} {rs : List (List UInt8)} (h : Items G xs rs) (j : Nat) (hj : j < xs.length) : ∃ hr : j < rs.length, SV G [] xs[j] (rs[j]).length ((rs[j]).map B8) :=
  ⟨by rw [← h.1]; exact hj, h.2 j _ _ (by simp [hj]) (by simp [← h.1, hj])⟩
theorem Items.others {G : Im} {xs : List Value} {rs : List (List UInt8)} (h : Items G xs rs) (i : Int) : Items G (oth xs i) (oth rs i) := by
  have key : ∀ (xs : List Value) (rs : List (List UInt8)) (i : Int), xs.length = rs.length → (∀ (j : Nat) x r, xs[j]? = some x → rs[j]? = some r → SV G [] x r.length (r.map B8)) →
      (oth xs i).length = (oth rs i).length ∧ ∀ (j : Nat) x r, (oth xs i)[j]? = some x → (oth rs i)[j]? = some r → SV G [] x r.length (r.map B8) := by
    intro xs
    induction xs with
    | nil =>
      intro rs i hl h
      cases rs with
      | nil => exact ⟨rfl, fun j x r hx => by simp [oth] at hx⟩
      | cons r rs => simp at hl
    | cons x xs ih =>
      intro rs i hl h
      cases rs with
      | nil => simp at hl
      | cons r rs =>
        obtain ⟨i1, i2⟩ := ih rs (i - 1) (by simpa using hl) (fun j x r hx hr => h (j + 1) x r (by simpa using hx) (by simpa using hr))
        simp only [oth]
        by_cases h0 : i = 0
        · simp only [if_pos h0, List.nil_append]; exact ⟨i1, i2⟩
        · simp only [if_neg h0, List.cons_append, List.nil_append, List.length_cons, i1, true_and]
          intro j y s hy hs
          cases j with
          | zero => simp at hy hs; subst hy hs; exact h 0 x r rfl rfl
          | succ j => exact i2 j y s (by simpa using hy) (by simpa using hs)
  exact key xs rs i h.1 h.2

theorem l_fin {w0 : World} {G : Im} {H K R' : Hp} {n : Nat} {ds : List Deferred} {env : Env} (hsp : Split H K R') : Holds n ds w0 env G H (fun a w => Exit.normal = Exit.normal ∧ Sat w0 w G K) := by
  unfold Holds; exact fun a w ht hs => ⟨rfl, hs.only hsp⟩

theorem others_c (ad : Option Addr) (k cap : Nat) (i : Int) (w0 w : World) (G : Im) (H : Hp) (hs : Sat w0 w G H) :
    Calls Try.prog 64 #[.slice ad k cap, I64 i] w fun e w' => ∃ b1 b2, e = .returned (.func (.func 81) #[] #[Pt b1 0, Pt b2 0]) ∧ Sat w0 w' G ((b2, Cs [I64 i] 3) :: (b1, Cs [.slice ad k cap] 39) :: H) := by
  refine f_enter (vs := [_, _]) Try.func64 rfl Try.ntmps64 (by simp) hs ?_
  refine ww ?_
  refine c_cons (s_box rfl rfl rfl fun b1 => ?_)
  refine c_cons (s_box rfl rfl rfl fun b2 => ?_)
  refine ww ?_
  exact f_ret1 rfl rfl (fun w hs => ⟨b1, b2, rfl, hs⟩)

theorem foldI_c (gf : FuncId) (cap : Array Value) (xs : List Value) (rs : List (List UInt8)) (w0 w : World) (G : Im) (F : Hp) (hen : entersB Try.prog gf = true) (hit : ItSpec Try.prog gf cap G xs) (hx : Items G xs rs) (hs : Sat w0 w G F) :
    Calls Try.prog 86 #[.func (.func gf) #[] cap, I64 0, .func (.func 87) #[] #[]] w fun e w' => e = .returned (I64 (mxl rs)) ∧ Sat w0 w' G F := by
  refine fw_back (m := 0) (i_enter (vs := [_, _, _]) Try.func86 rfl Try.ntmps86 (by simp) hs ?_)
  refine wi ?_
  refine i_cons (i_box rfl rfl rfl fun b4 => ?_)
  refine i_cons (i_box rfl rfl rfl fun b5 => ?_)
  refine wi ?_
  refine c_env [(8, .func (.func gf) #[] cap), (5, Pt b5 0), (4, Pt b4 0)] ⟨rfl, rfl, rfl, trivial⟩ ?_
  refine c_heap ((b4, Cs [I64 (mxl (rs.take 0))] 3) :: (b5, Cs [.func (.func 87) #[] #[]] 132) :: F) (Split.cons (.tail .head) rfl (Split.cons .head rfl (Split.refl F))) ?_
  refine i_range xs (fun j => (b4, Cs [I64 (mxl (rs.take j))] 3) :: (b5, Cs [.func (.func 87) #[] #[]] 132) :: F) (fun j => [(7, xs.getD j undef), (5, Pt b5 0), (4, Pt b4 0)]) rfl hen (by decide) hit ?_ ?_ ?_
  · intro j hj l H1 K hK
    have e : xs.getD j undef = xs[j] := by simp [hj]
    refine wi ?_
    exact c_env [(7, xs.getD j undef), (5, Pt b5 0), (4, Pt b4 0)] ⟨by rw [e]; rfl, rfl, rfl, trivial⟩ hK
  · intro j hj l F'
    have e : xs.getD j undef = xs[j] := by simp [hj]
    obtain ⟨hr, hsv⟩ := hx.at j hj
    obtain ⟨ad, k, L, hv⟩ : ∃ (ad : Option Addr) (k c : Nat), xs[j] = .slice ad k c := by obtain ⟨ad, c, hv, _⟩ := hsv; exact ⟨ad, _, c, hv⟩
    rw [e]
    refine wi ?_
    refine i_cons (i_val (v_load rfl (Cel.tail (Cel.head rfl)) (by kernel_rfl)) rfl rfl rfl rfl ?_)
    refine i_cons (i_val (v_load rfl (Cel.head rfl) (by kernel_rfl)) rfl rfl rfl rfl ?_)
    refine wi ?_
    refine i_cons (i_call (xs := [_, _]) rfl rfl rfl rfl rfl rfl (by kernel_rfl) (fun w hs => longest1_c _ _ _ _ _ w _ _ (hsv.mono (Im.le_refl G) (by simp)) hs) ?_)
    rintro e w' ⟨rfl, hs'⟩
    refine Holds.atw ?_ hs'
    refine i_cons (i_store1 rfl rfl rfl .head (by kernel_rfl) rfl (by simp) ?_)
    refine wi ?_
    refine l_fin (Split.cons .head ?_ (Split.refl _))
    have h1 : (max (mxl (rs.take j) : Int) (rs[j].length : Int)) = ((mxl (rs.take (j + 1)) : Nat) : Int) := by
      rw [List.take_succ_eq_append_getElem hr, mxl_snoc]; omega
    rw [h1]; rfl
  · intro D
    have e : rs.take xs.length = rs := by rw [hx.1, List.take_length]
    rw [e]
    refine wi ?_
    refine i_cons (i_val (v_load rfl (Cel.tail (Cel.head rfl)) (by kernel_rfl)) rfl rfl rfl rfl ?_)
    refine wi ?_
    exact i_ret1 rfl rfl .head (fun w hs => ⟨rfl, hs.tl.tl⟩)

theorem longest_c (gf : FuncId) (cap : Array Value) (xs : List Value) (rs : List (List UInt8)) (w0 w : World) (G : Im) (F : Hp) (hen : entersB Try.prog gf = true) (hit : ItSpec Try.prog gf cap G xs) (hx : Items G xs rs) (hs : Sat w0 w G F) :
    Calls Try.prog 79 #[.func (.func gf) #[] cap] w fun e w' => e = .returned (I64 (mxl rs)) ∧ Sat w0 w' G F := by
  refine f_enter (vs := [_]) Try.func79 rfl Try.ntmps79 (by simp) hs ?_
  refine ww ?_
  refine c_cons (s_call (xs := [_, _, _]) rfl rfl rfl rfl rfl rfl (by kernel_rfl) (fun w hs => foldI_c gf cap xs rs _ w _ _ hen hit hx hs) ?_)
  rintro e w' ⟨rfl, hs'⟩
  refine Holds.atw ?_ hs'
  refine ww ?_
  exact f_ret1 rfl rfl (fun w hs => ⟨rfl, hs⟩)

theorem foldB_c (gf : FuncId) (cap : Array Value) (xs : List Value) (rs : List (List UInt8)) (b m : Nat) (w0 w : World) (G : Im) (F : Hp) (hen : entersB Try.prog gf = true) (hit : ItSpec Try.prog gf cap G xs) (hx : Items G xs rs)
    (hm : mxl rs ≤ m) (hmb : m ≤ 281474976710656) (hs : Sat w0 w G ((b, Cs ((List.replicate m (0 : UInt8)).map B8) 5) :: F)) :
    Calls Try.prog 78 #[.func (.func gf) #[] cap, Sl b 0 m m, .func (.func 80) #[] #[]] w fun e w' => e = .returned (Sl b 0 m m) ∧ Sat w0 w' G ((b, Cs ((pxk m rs).map B8) 5) :: F) := by
  refine fw_back (m := 0) (i_enter (vs := [_, _, _]) Try.func78 rfl Try.ntmps78 (by simp) hs ?_)
  refine wi ?_
  refine i_cons (i_box rfl rfl rfl fun b4 => ?_)
  refine i_cons (i_box rfl rfl rfl fun b5 => ?_)
  refine wi ?_
  refine c_env [(8, .func (.func gf) #[] cap), (5, Pt b5 0), (4, Pt b4 0)] ⟨rfl, rfl, rfl, trivial⟩ ?_
  refine c_heap ((b, Cs ((pxk m (rs.take 0)).map B8) 5) :: (b4, Cs [Sl b 0 m m] 22) :: (b5, Cs [.func (.func 80) #[] #[]] 127) :: F)
    (Split.cons (.tail (.tail .head)) rfl (Split.cons (.tail .head) rfl (Split.cons .head rfl (Split.refl F)))) ?_
  refine i_range xs (fun j => (b, Cs ((pxk m (rs.take j)).map B8) 5) :: (b4, Cs [Sl b 0 m m] 22) :: (b5, Cs [.func (.func 80) #[] #[]] 127) :: F) (fun j => [(7, xs.getD j undef), (5, Pt b5 0), (4, Pt b4 0)]) rfl hen (by decide) hit ?_ ?_ ?_
  · intro j hj l H1 K hK
    have e : xs.getD j undef = xs[j] := by simp [hj]
    refine wi ?_
    exact c_env [(7, xs.getD j undef), (5, Pt b5 0), (4, Pt b4 0)] ⟨by rw [e]; rfl, rfl, rfl, trivial⟩ hK
  · intro j hj l F'
    have e : xs.getD j undef = xs[j] := by simp [hj]
    obtain ⟨hr, hsv⟩ := hx.at j hj
    have hrl : (rs[j]).length ≤ (pxk m (rs.take j)).length := by rw [pxk_length]; exact Nat.le_trans (le_mxl (List.getElem_mem hr)) hm
    rw [e]
    refine wi ?_
    refine i_cons (i_val (v_load rfl (Cel.tail (Cel.tail (Cel.head rfl))) (by kernel_rfl)) rfl rfl rfl rfl ?_)
    refine i_cons (i_val (v_load rfl (Cel.tail (Cel.head rfl)) (by kernel_rfl)) rfl rfl rfl rfl ?_)
    refine wi ?_
    refine i_cons (i_call (xs := [_, _]) rfl rfl rfl rfl rfl rfl (by kernel_rfl) (fun w hs => sum1_c b m _ _ _ _ w _ _ (pxk_length _ _) hmb hsv hrl hs) ?_)
    rintro e w' ⟨rfl, hs'⟩
    refine Holds.atw ?_ hs'
    refine i_cons (i_store1 rfl rfl rfl (.tail .head) (by kernel_rfl) rfl (by simp) ?_)
    refine wi ?_
    refine l_fin (Split.cons (.tail .head) ?_ (Split.cons .head rfl (Split.refl _)))
    rw [List.take_succ_eq_append_getElem hr, pxk_snoc]
  · intro D
    have e : rs.take xs.length = rs := by rw [hx.1, List.take_length]
    rw [e]
    refine wi ?_
    refine i_cons (i_val (v_load rfl (Cel.tail (Cel.tail (Cel.head rfl))) (by kernel_rfl)) rfl rfl rfl rfl ?_)
    refine wi ?_
    exact i_ret1 rfl rfl .head (fun w hs => ⟨rfl, hs.only2⟩)

theorem sum_c (gf : FuncId) (cap : Array Value) (xs : List Value) (rs : List (List UInt8)) (w0 w : World) (G : Im) (F : Hp) (hen : entersB Try.prog gf = true) (hit : ItSpec Try.prog gf cap G xs) (hx : Items G xs rs) (hm : mxl rs ≤ 140737488355328) (hs : Sat w0 w G F) :
    Calls Try.prog 63 #[.func (.func gf) #[] cap] w fun e w' => ∃ b, e = .returned (Sl b 0 (mxl rs) (mxl rs)) ∧ Sat w0 w' G ((b, Cs ((pxor rs).map B8) 5) :: F) := by
  refine f_enter (vs := [_]) Try.func63 rfl Try.ntmps63 (by simp) hs ?_
  refine ww ?_
  refine c_cons (s_call (xs := [_]) rfl rfl rfl rfl rfl rfl (by kernel_rfl) (fun w hs => longest_c gf cap xs rs _ w _ _ hen hit hx hs) ?_)
  rintro e w' ⟨rfl, hs'⟩
  refine Holds.atw ?_ hs'
  refine c_cons (s_make 5 (B8 0) 1 1 (mxl rs) rfl rfl rfl rfl (by kernel_rfl) (by omega) (by omega) fun b => ?_)
  have e1 : (madeCells (B8 0).cells (mxl rs * 1)).toList = (List.replicate (mxl rs) (0 : UInt8)).map B8 := by
    rw [Nat.mul_one, List.map_replicate]; exact toList_madeCells_one _ _
  rw [e1]
  refine c_cons (s_call (xs := [_, _, _]) rfl rfl rfl rfl rfl rfl (by kernel_rfl) (fun w hs => foldB_c gf cap xs rs b (mxl rs) _ w _ _ hen hit hx (Nat.le_refl _) (by omega) hs) ?_)
  rintro e w' ⟨rfl, hs'⟩
  refine Holds.atw ?_ hs'
  refine ww ?_
  exact f_ret1 rfl rfl (fun w hs => ⟨b, rfl, hs⟩)

/-- The rows of an argument: who has them, what they hold. -/
def RowsV (G : Im) (v : Value) (rs : List (List UInt8)) : Prop := ∃ vs, SV G [] v vs.length vs ∧ Items G vs rs
theorem RowsV.mono {G G' : Im} {v : Value} {rs : List (List UInt8)} (h : RowsV G v rs) (hG : Im.le G G') : RowsV G' v rs := let ⟨vs, h1, h2⟩ := h; ⟨vs, h1.mono hG (fun _ hp => hp), h2.mono hG⟩

theorem xor_c (v : Value) (rs : List (List UInt8)) (w0 w : World) (G : Im) (F : Hp) (hv : RowsV G v rs) (hm : mxl rs ≤ 140737488355328) (hs : Sat w0 w G F) :
    Calls Try.prog 46 #[v] w fun e w' => ∃ b G', e = .returned (Sl b 0 (mxl rs) (mxl rs)) ∧ Im.le G G' ∧ Sat w0 w' G' ((b, Cs ((pxor rs).map B8) 5) :: F) := by
  obtain ⟨vs, hv, hx⟩ := hv
  have hv' := hv
  obtain ⟨ad, cap, rfl, h1, h2, h3⟩ := hv
  refine f_enter (vs := [_]) Try.func46 rfl Try.ntmps46 (by simp) hs ?_
  refine ww ?_
  refine c_cons (s_call (xs := [_, _]) rfl rfl rfl rfl rfl rfl (by kernel_rfl) (fun w hs => others_c ad vs.length cap (-1) _ w _ _ hs) ?_)
  rintro e w' ⟨b1, b2, rfl, hs'⟩
  refine Holds.atw ?_ hs'
  refine c_freeze .head fun G1 hG1 hb2 => ?_
  refine c_freeze .head fun G2 hG2 hb1 => ?_
  have hG := hG1.trans hG2
  have hit := others1_c b1 b2 (-1) _ vs G2 hb1 (hG2 _ _ hb2) (hv'.mono hG (fun _ hp => hp))
  rw [oth_neg _ _ (by omega)] at hit
  refine c_cons (s_call (xs := [_]) rfl rfl rfl rfl rfl rfl (by kernel_rfl) (fun w hs => sum_c _ _ vs rs _ w _ _ (by kernel_rfl) hit (hx.mono hG) hm hs) ?_)
  rintro e w' ⟨b, rfl, hs'⟩
  refine Holds.atw ?_ hs'
  refine ww ?_
  exact f_ret1 rfl rfl (fun w hs => ⟨b, G2, rfl, hG, hs⟩)

theorem holds_c (v : Value) (rs : List (List UInt8)) (w0 w : World) (G : Im) (F : Hp) (hv : RowsV G v rs) (hm : mxl rs ≤ 140737488355328) (hs : Sat w0 w G F) :
    Calls Try.prog 66 #[v] w fun e w' => ∃ G', e = .returned (.bool (decide (∀ c ∈ pxor rs, c = 0))) ∧ Im.le G G' ∧ Sat w0 w' G' F := by
  refine f_enter (vs := [_]) Try.func66 rfl Try.ntmps66 (by simp) hs ?_
  refine ww ?_
  refine c_cons (s_call (xs := [_]) rfl rfl rfl rfl rfl rfl (by kernel_rfl) (fun w hs => xor_c _ _ _ w _ _ hv hm hs) ?_)
  rintro e w' ⟨b, G', rfl, hG, hs'⟩
  refine Holds.atw ?_ hs'
  refine ww ?_
  have hl : (pxor rs).length = mxl rs := pxor_length rs
  refine c_loop (α := Nat) (fun i => [(8, I64 i), (7, I64 (mxl rs)), (6, Sl b 0 (mxl rs) (mxl rs))]) (fun _ => G') (fun i => (b, Cs ((pxor rs).map B8) 5) :: F) (fun i => i ≤ mxl rs ∧ ∀ c ∈ (pxor rs).take i, c = 0) (fun i => mxl rs - i) 0 ⟨Nat.zero_le _, by simp⟩ ?_ ?_
  · exact l_at ⟨rfl, rfl, rfl, trivial⟩ (Split.refl _)
  · rintro i ⟨hi, hz⟩
    refine ww ?_
    refine c_cond_d rfl (fun hlt => ?_) (fun hge => ?_)
    · have hil : i < (pxor rs).length := by omega
      refine ww ?_
      refine c_cons (s_val (v_index1 rfl rfl (by kernel_rfl) (by omega)) rfl rfl rfl ?_)
      have e1 : Cel G' ((b, Cs ((pxor rs).map B8) 5) :: F) b (0 + (i : Int).toNat) (B8 (pxor rs)[i]) := Cel.head (by rw [Nat.zero_add, Int.toNat_natCast]; simp [hil])
      refine c_cons (s_val (v_load rfl e1 (by kernel_rfl)) rfl rfl rfl ?_)
      refine ww ?_
      refine c_cond_d rfl (fun hne => ?_) (fun heq => ?_)
      · refine ww ?_
        refine f_ret1 rfl rfl (fun w hs => ⟨G', ?_, hG, hs.tl⟩)
        have : ¬ ∀ c ∈ pxor rs, c = 0 := fun h => hne (by rw [h _ (List.getElem_mem hil)]; rfl)
        rw [decide_eq_false this]
      · refine ww ?_
        refine l_next (G' := fun _ => G') (i + 1) ⟨by omega, ?_⟩ (by omega) ⟨rfl, rfl, rfl, trivial⟩ rfl (Split.refl _)
        intro c hc
        rw [List.take_succ_eq_append_getElem hil, List.mem_append] at hc
        rcases hc with hc | hc
        · exact hz c hc
        · rw [List.mem_singleton.1 hc]
          have h2 : ¬ ¬ ((pxor rs)[i].toNat : Int) = 0 := heq
          exact UInt8.toNat_inj.1 (by simpa using h2)
    · refine ww ?_
      refine f_ret1 rfl rfl (fun w hs => ⟨G', ?_, hG, hs.tl⟩)
      have e : i = (pxor rs).length := by omega
      subst e
      rw [List.take_length] at hz
      rw [decide_eq_true hz]
end Go.Proofs.Ytldkldmjcacopaa
