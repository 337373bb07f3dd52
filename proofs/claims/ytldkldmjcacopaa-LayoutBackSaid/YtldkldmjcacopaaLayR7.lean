/- The walks of package layout: rows. The walks of package layout: filled. The walks of package layout: joined, Join. The walks of package layout: Join; awake. -/
import Derived.Test.YtldkldmjcacopaaLayR3
namespace Go.Proofs.Ytldkldmjcacopaa
section
open Go
set_option linter.unusedVariables false
set_option linter.unusedSimpArgs false
set_option maxHeartbeats 1600000
/-- A row that is there, or none. -/
def OIt (G : Im) (v : Value) : Option (List UInt8) → Prop
  | none => v = .slice none 0 0
  | some r => (∃ b o c, v = Sl b o r.length c) ∧ SV G [] v r.length (r.map B8)
theorem OIt.up {G G' : Im} {v : Value} {o : Option (List UInt8)} (h : OIt G v o) (hG : Im.le G G') : OIt G' v o := by
  cases o with
  | none => exact h
  | some r => exact ⟨h.1, h.2.mono hG (by simp)⟩
theorem OIt.one {G : Im} {v : Value} {o : Option (List UInt8)} (h : OIt G v o) : v.oneCell' = true := by
  cases o with
  | none => have h' : v = .slice none 0 0 := h; rw [h']; rfl
  | some r => exact h.2.one
def OItems (G : Im) (vs : List Value) (os : List (Option (List UInt8))) : Prop := vs.length = os.length ∧ ∀ (j : Nat) v o, vs[j]? = some v → os[j]? = some o → OIt G v o
theorem OItems.up {G G' : Im} {vs : List Value} {os : List (Option (List UInt8))} (h : OItems G vs os) (hG : Im.le G G') : OItems G' vs os := ⟨h.1, fun j v o h1 h2 => (h.2 j v o h1 h2).up hG⟩
theorem OItems.snoc {G : Im} {vs : List Value} {os : List (Option (List UInt8))} (h : OItems G vs os) {u : Value} {o : Option (List UInt8)} (hu : OIt G u o) : OItems G (vs ++ [u]) (os ++ [o]) := by
  refine ⟨by simp [h.1], fun j x r hx hr => ?_⟩
  by_cases hj : j < vs.length
  · rw [List.getElem?_append_left hj] at hx
    rw [List.getElem?_append_left (by rw [← h.1]; exact hj)] at hr
    exact h.2 j x r hx hr
  · have hjl : j < (vs ++ [u]).length := (List.getElem?_eq_some_iff.1 hx).1
    have hje : j = vs.length := by simp at hjl; omega
    subst hje
    rw [List.getElem?_append_right (Nat.le_refl _), Nat.sub_self] at hx
    rw [h.1, List.getElem?_append_right (Nat.le_refl _), Nat.sub_self] at hr
    cases hx
    cases hr
    exact hu
abbrev RSt := List (Option (List UInt8)) × Int × Int
def okR (c l num n size : Int) (i : Nat) (b : List UInt8) : Prop := readE b = 0 ∧ ((readH b).c = c ∧ (readH b).l = l ∧ (readH b).n = num) ∧ (readH b).i = i ∧ (readH b).s = n ∧ (size < 0 ∨ (readH b).z = size)
instance (c l num n size : Int) (i : Nat) (b : List UInt8) : Decidable (okR c l num n size i b) := by unfold okR; infer_instance
def stepR (c l num nt n : Int) (st : Option RSt) (i : Nat) (b : List UInt8) : Option RSt := match st with
  | none => none
  | some s => if (i : Int) = nt then some (s.1 ++ [none], s.2.1, s.2.2) else if b = [] then some (s.1 ++ [none], s.2.1 + 1, s.2.2) else if okR c l num n s.2.2 i b then some (s.1 ++ [some (readB b)], s.2.1, (readH b).z) else none
def foldR (c l num nt n : Int) (frs : List (List UInt8)) : Nat × Option RSt := frs.foldl (fun p b => (p.1 + 1, stepR c l num nt n p.2 p.1 b)) (0, some ([], 0, -1))
def rowsR (c l num nt n : Int) (frs : List (List UInt8)) : Option RSt := (foldR c l num nt n frs).2
theorem snoc_ind {α : Type} {p : List α → Prop} (h0 : p []) (h1 : ∀ l x, p l → p (l ++ [x])) (l : List α) : p l := by
  rw [← List.reverse_reverse l]
  induction l.reverse with
  | nil => exact h0
  | cons x r ih => rw [List.reverse_cons]; exact h1 _ _ ih
theorem foldR_len (c l num nt n : Int) (frs : List (List UInt8)) : (foldR c l num nt n frs).1 = frs.length := by
  induction frs using snoc_ind with
  | h0 => rfl
  | h1 l x ih => unfold foldR at ih ⊢; rw [List.foldl_append, List.length_append, ← ih]; rfl
theorem rowsR_snoc (c l num nt n : Int) (frs : List (List UInt8)) (b : List UInt8) : rowsR c l num nt n (frs ++ [b]) = stepR c l num nt n (rowsR c l num nt n frs) frs.length b := by
  have h := foldR_len c l num nt n frs
  unfold rowsR foldR at *
  rw [List.foldl_append, ← h]; rfl
theorem rowsR_none (c l num nt n : Int) (frs ks : List (List UInt8)) (h : rowsR c l num nt n frs = none) : rowsR c l num nt n (frs ++ ks) = none := by
  induction ks using snoc_ind with
  | h0 => rw [List.append_nil]; exact h
  | h1 ks b ih => rw [← List.append_assoc, rowsR_snoc, ih]; rfl
theorem rowsR_in (c l num nt n : Int) (frs : List (List UInt8)) : ∀ st, rowsR c l num nt n frs = some st → st.1.length = frs.length ∧ 0 ≤ st.2.1 ∧ st.2.1 ≤ frs.length ∧ -1 ≤ st.2.2 ∧ st.2.2 ≤ 65535 := by
  induction frs using snoc_ind with
  | h0 => intro st h; cases h; exact ⟨rfl, by decide, by decide, by decide, by decide⟩
  | h1 frs b ih =>
    intro st h
    rw [rowsR_snoc] at h
    cases hr : rowsR c l num nt n frs with
    | none => rw [hr] at h; cases h
    | some s =>
      rw [hr] at h
      obtain ⟨h1, h2, h3, h4, h5⟩ := ih s hr
      unfold stepR at h
      dsimp only at h
      split at h
      · cases h; simp [h1]; omega
      · split at h
        · cases h; simp [h1]; omega
        · split at h
          · cases h
            have hz : 0 ≤ (readH b).z ∧ (readH b).z ≤ 65535 := by
              unfold readH
              split
              · exact (hdOf_gd b).2.2.2.2.2
              · decide
            simp [h1]; omega
          · cases h
/-- A list one of which is written. -/
theorem set_pad (vs : List Value) (u z : Value) (k : Nat) (h : vs.length < k) : (vs ++ List.replicate (k - vs.length) z).set vs.length u = (vs ++ [u]) ++ List.replicate (k - (vs ++ [u]).length) z := by
  rw [List.set_append_right _ _ (Nat.le_refl _), Nat.sub_self]
  obtain ⟨m, hm⟩ : ∃ m, k - vs.length = m + 1 := ⟨k - vs.length - 1, by omega⟩
  rw [hm, List.replicate_succ, List.set_cons_zero, show k - (vs ++ [u]).length = m by simp; omega, List.append_assoc]
  rfl
theorem pad_snoc (vs : List Value) (z : Value) (k : Nat) (h : vs.length < k) : vs ++ List.replicate (k - vs.length) z = (vs ++ [z]) ++ List.replicate (k - (vs ++ [z]).length) z := by
  obtain ⟨m, hm⟩ : ∃ m, k - vs.length = m + 1 := ⟨k - vs.length - 1, by omega⟩
  rw [hm, List.replicate_succ, show k - (vs ++ [z]).length = m by simp; omega, List.append_assoc]
  rfl
attribute [local irreducible] Code.wp wpList stepK Holds Val wpR Eff Eff0 Code.wpIn wpListIn stepI Exit.then Exit.inBlock bodyPost bodyPostM

abbrev RwB (b : Nat) (vs : List Value) : Nat × Obj := (b, Cs vs 22)
theorem rows_c (c l num nt n : Int) (vf : Value) (frs : List (List UInt8)) (hml : ∀ b, b ∈ frs → b.length ≤ 100000) (w0 w : World) (G : Im) (F : Hp) (hv : RowsV G vf frs) (hs : Sat w0 w G F) :
    Calls Try.prog 65 #[.agg #[I64 c, I64 l, I64 num], vf, I64 nt, I64 n] w fun e w' => ∃ G', Im.le G G' ∧
      ((¬ ((3 ≤ n ∧ n ≤ 16) ∧ (frs.length : Int) = n) ∧ e = .panicked (lgone 1) ∧ Sat w0 w' G' F) ∨ (((3 ≤ n ∧ n ≤ 16) ∧ (frs.length : Int) = n) ∧ rowsR c l num nt n frs = none ∧ e = .panicked (lgone 4) ∧ Sat w0 w' G' F) ∨
       (((3 ≤ n ∧ n ≤ 16) ∧ (frs.length : Int) = n) ∧ ∃ st b vs, rowsR c l num nt n frs = some st ∧ e = .returned (.tuple #[Sl b 0 frs.length frs.length, I64 st.2.1, I64 st.2.2]) ∧ OItems G' vs st.1 ∧ Sat w0 w' G' (RwB b vs :: F))) := by
  obtain ⟨fvs, hfv, hfi⟩ := hv
  have hfl := hfi.1
  obtain ⟨adf, cpf, rfl⟩ := hfv.form
  rw [hfl] at hfv ⊢
  refine f_enter (vs := [_, _, _, _]) Try.func65 rfl Try.ntmps65 (by simp) hs ?_
  refine ww ?_
  refine c_cons (s_boxA [I64 c, I64 l, I64 num] rfl rfl rfl fun b1 => ?_)
  refine c_freeze .head fun G1 hG1 kS => ?_
  refine ww ?_
  refine c_cons (s_call (xs := [_]) rfl rfl rfl rfl rfl rfl (by kernel_rfl) (fun w hs => lsrv_c n _ w _ _ hs) ?_)
  rintro e w' ⟨rfl, hs'⟩; refine a_ret ?_ hs'; clear hs'
  refine ww ?_
  refine c_part_d 21 _ rfl (fun c1 => ?_) (fun c1 => ?_)
  rotate_left
  · refine ww ?_
    refine c_cons (s_call (xs := [_, _]) rfl rfl rfl rfl rfl rfl (by kernel_rfl) (fun w hs => must_f 1 _ w _ _ hs) ?_)
    rintro e w' ⟨rfl, hs'⟩
    refine a_panic ?_ hs'; clear hs'
    repeat (first | refine x_then_panic ?_ | refine x_block_panic ?_)
    exact f_panic (fun w hs => ⟨G1, hG1, .inl ⟨fun h => c1 h.1, rfl, hs⟩⟩)
  refine ww ?_
  by_cases c2 : (frs.length : Int) = n
  rotate_left
  · rw [decide_eq_false c2]
    refine c_cons (s_call (xs := [_, _]) rfl rfl rfl rfl rfl rfl (by kernel_rfl) (fun w hs => must_f 1 _ w _ _ hs) ?_)
    rintro e w' ⟨rfl, hs'⟩
    refine a_panic ?_ hs'; clear hs'
    repeat (first | refine x_then_panic ?_ | refine x_block_panic ?_)
    exact f_panic (fun w hs => ⟨G1, hG1, .inl ⟨fun h => c2 h.2, rfl, hs⟩⟩)
  rw [decide_eq_true c2]
  refine c_cons (s_call (xs := [_, _]) rfl rfl rfl rfl rfl rfl (by kernel_rfl) (fun w hs => must_t 1 _ w _ _ hs) ?_)
  rintro e w' ⟨rfl, hs'⟩; refine a_ret ?_ hs'; clear hs'
  refine ww ?_
  obtain ⟨K, hK⟩ : ∃ K, K = frs.length := ⟨_, rfl⟩
  rw [← hK] at hfl c2 hfv ⊢
  have hK16 : 3 ≤ K ∧ K ≤ 16 := by omega
  refine c_cons (s_make 22 (.slice none 0 0) 1 24 K rfl rfl (by rw [← c2]; rfl) (by rw [← c2]; rfl) (by kernel_rfl) (by omega) (by omega) fun b2 => ?_)
  rw [show (madeCells (Value.slice none 0 0).cells (K * 1)).toList = ([] : List Value) ++ List.replicate (K - ([] : List Value).length) (.slice none 0 0) from by rw [Nat.mul_one]; exact (toList_madeCells_one _ _).trans (by simp)]
  change Holds _ _ _ _ _ (RwB b2 (([] : List Value) ++ List.replicate (K - ([] : List Value).length) (.slice none 0 0)) :: F) _
  refine ww ?_
  refine c_loop (α := Im × List Value × RSt) (fun x => [(2, I64 nt), (3, I64 n), (4, Pt b1 0), (11, Sl b2 0 K K), (12, I64 x.2.2.2.1), (13, I64 x.2.2.2.2), (30, .slice adf K cpf), (31, I64 K), (32, I64 x.2.1.length)]) (fun x => x.1) (fun x => RwB b2 (x.2.1 ++ List.replicate (K - x.2.1.length) (.slice none 0 0)) :: F) (fun x => x.2.1.length ≤ K ∧ Im.le G1 x.1 ∧ OItems x.1 x.2.1 x.2.2.1 ∧ rowsR c l num nt n (frs.take x.2.1.length) = some x.2.2) (fun x => K - x.2.1.length) (G1, [], ([], 0, -1)) ⟨Nat.zero_le _, Im.le_refl _, ⟨rfl, fun j v o h => by simp at h⟩, by rw [List.length_nil, List.take_zero]; rfl⟩ ?_ ?_
  · exact n_at ⟨rfl, rfl, rfl, rfl, rfl, rfl, rfl, rfl, rfl, trivial⟩ sbx
  rintro ⟨Gi, vs, os, ms, sz⟩ ⟨hi, hGi, hoi, hrr⟩
  dsimp only at hi hGi hoi hrr ⊢
  obtain ⟨hin1, hin2, hin3, hin4, hin5⟩ := rowsR_in c l num nt n _ _ hrr
  dsimp only at hin1 hin2 hin3 hin4 hin5
  rw [List.length_take] at hin1 hin3
  refine ww ?_
  refine c_cond_d rfl (fun c3 => ?_) (fun c3 => ?_)
  · -- then
    have hil : vs.length < frs.length := by omega
    obtain ⟨hr2, hitm⟩ := hfi.at vs.length (by omega)
    obtain ⟨b, hbb⟩ : ∃ b, b = frs[vs.length] := ⟨_, rfl⟩
    rw [← hbb] at hitm
    have hbl := hml b (by rw [hbb]; exact List.getElem_mem hil)
    have htk : frs.take (vs.length + 1) = frs.take vs.length ++ [b] := by rw [List.take_add_one, List.getElem?_eq_getElem hil, hbb]; rfl
    have hstp := rowsR_snoc c l num nt n (frs.take vs.length) b
    rw [← htk, hrr, List.length_take, Nat.min_eq_left (by omega)] at hstp
    obtain ⟨vb, hvb⟩ : ∃ vb, vb = fvs[vs.length]'(by omega) := ⟨_, rfl⟩
    rw [← hvb] at hitm
    have hcb : ∀ H : Hp, ∃ bf o, adf = some ⟨bf, o, none⟩ ∧ Cel Gi H bf (o + (vs.length : Int).toNat) vb := fun H => by
      obtain ⟨_, _, e, h1, h2, h3⟩ := hfv
      cases e
      rcases h3 with ⟨h0, _⟩ | ⟨bf, o, rfl, hc⟩
      · have h00 : fvs.length = 0 := by rw [h0]; rfl
        omega
      · refine ⟨bf, o, rfl, ?_⟩
        rw [Int.toNat_natCast]
        exact (hc vs.length vb (by rw [hvb]; exact List.getElem?_eq_getElem _)).mono (hG1.trans hGi) (by simp)
    obtain ⟨bf, o, rfl, _⟩ := hcb []
    have hcb' : ∀ H : Hp, Cel Gi H bf (o + (vs.length : Int).toNat) vb := fun H => by
      obtain ⟨bf', o', e, h⟩ := hcb H
      cases e
      exact h
    replace hitm := hitm.mono (hG1.trans hGi) (fun p hp => hp)
    obtain ⟨adb, cpb, rfl⟩ := hitm.form
    have hns := hoi.snoc (u := .slice none 0 0) (o := none) rfl
    have hpad := pad_snoc vs (.slice none 0 0) K (by omega)
    have hl1 : (vs ++ [Value.slice none 0 0]).length = vs.length + 1 := by simp
    refine ww ?_
    refine c_cons (s_val (v_index1 rfl rfl (by kernel_rfl) (by omega)) rfl rfl rfl ?_)
    refine c_cons (s_val (v_load rfl (hcb' _) (by kernel_rfl)) rfl rfl rfl ?_)
    refine ww ?_
    refine c_cond_d rfl (fun c4 => ?_) (fun c4 => ?_)
    · -- then
      have hst : stepR c l num nt n (some (os, ms, sz)) vs.length b = some (os ++ [none], ms, sz) := by unfold stepR; dsimp only; rw [if_pos c4]
      rw [hst] at hstp
      refine ww ?_
      exact n_next (x := (Gi, vs, os, ms, sz)) (Gi, vs ++ [.slice none 0 0], os ++ [none], ms, sz) ⟨by rw [hl1]; omega, hGi, hns, by dsimp only; rw [hl1]; exact hstp⟩ (by dsimp only; rw [hl1]; omega) ⟨rfl, rfl, rfl, rfl, rfl, rfl, rfl, rfl, by dsimp only; rw [hl1]; rfl, trivial⟩ rfl (by dsimp only; rw [← hpad]; exact sbx)
    refine ww ?_
    refine c_cond_d rfl (fun c5 => ?_) (fun c5 => ?_)
    · -- then
      have hb0 : b = [] := List.eq_nil_of_length_eq_zero (by omega)
      have hst : stepR c l num nt n (some (os, ms, sz)) vs.length b = some (os ++ [none], ms + 1, sz) := by unfold stepR; dsimp only; rw [if_neg c4, if_pos hb0]
      rw [hst] at hstp
      refine ww ?_
      exact n_next (x := (Gi, vs, os, ms, sz)) (Gi, vs ++ [.slice none 0 0], os ++ [none], ms + 1, sz) ⟨by rw [hl1]; omega, hGi, hns, by dsimp only; rw [hl1]; exact hstp⟩ (by dsimp only; rw [hl1]; omega) ⟨rfl, rfl, rfl, rfl, rfl, rfl, rfl, rfl, by dsimp only; rw [hl1]; rfl, trivial⟩ rfl (by dsimp only; rw [← hpad]; exact sbx)
    have hb0 : ¬ b = [] := fun h => c5 (by rw [h]; rfl)
    have hst : stepR c l num nt n (some (os, ms, sz)) vs.length b = if okR c l num n sz vs.length b then some (os ++ [some (readB b)], ms, (readH b).z) else none := by unfold stepR; dsimp only; rw [if_neg c4, if_neg hb0]
    rw [hst] at hstp
    have bad : ¬ okR c l num n sz vs.length b → rowsR c l num nt n frs = none := fun h => by
      rw [if_neg h] at hstp
      have := rowsR_none c l num nt n _ (frs.drop (vs.length + 1)) hstp
      rw [List.take_append_drop] at this
      exact this
    refine ww ?_
    refine c_cons (s_call (xs := [_]) rfl rfl rfl rfl rfl rfl (by kernel_rfl) (fun w hs => readF_c _ b hbl _ w _ _ hitm hs) ?_)
    rintro e w' ⟨G2, u, rfl, hG2, hu, hs'⟩; refine a_ret ?_ hs'; clear hs'
    obtain ⟨h, hh⟩ : ∃ h, h = readH b := ⟨_, rfl⟩
    obtain ⟨ec, hec⟩ : ∃ ec, ec = readE b := ⟨_, rfl⟩
    have hokR : okR c l num n sz vs.length b ↔ ec = 0 ∧ (h.c = c ∧ h.l = l ∧ h.n = num) ∧ h.i = vs.length ∧ h.s = n ∧ (sz < 0 ∨ h.z = sz) := by unfold okR; rw [← hh, ← hec]
    rw [← hh] at hstp ⊢
    rw [← hec]
    have hGi2 := hGi.trans hG2
    refine ww ?_
    refine c_cons (s_allocA [I64 0, I64 0, I64 0, I64 0, I64 0, I64 0] (by kernel_rfl) rfl rfl fun b3 => ?_)
    refine c_cons (s_storeA (vs := [I64 h.c, I64 h.l, I64 h.n, I64 h.i, I64 h.s, I64 h.z]) rfl rfl rfl .head (by kernel_rfl) (by simp [Value.oneCell']) rfl ?_)
    refine c_freeze .head fun G3 hG3 k3 => ?_
    have hGi3 := hGi2.trans hG3
    have kS3 := hGi3 _ _ kS
    refine ww ?_
    refine c_part_d 53 _ rfl (fun c6 => ?_) (fun c6 => ?_)
    rotate_left
    · refine ww ?_
      refine c_cons (s_call (xs := [_, _]) rfl rfl rfl rfl rfl rfl (by kernel_rfl) (fun w hs => must_f 4 _ w _ _ hs) ?_)
      rintro e w' ⟨rfl, hs'⟩
      refine a_panic ?_ hs'; clear hs'
      repeat (first | refine x_then_panic ?_ | refine x_block_panic ?_)
      exact f_panic (fun w hs => ⟨G3, hG1.trans hGi3, .inr (.inl ⟨⟨by omega, by omega⟩, bad (fun hm => by rw [hokR] at hm; obtain ⟨m1, m2, m3, m4, m5⟩ := hm; first | omega | exact c7 m2), rfl, hs.tl⟩)⟩)
    refine ww ?_
    refine c_cons (s_val (v_field 0 rfl (by kernel_rfl)) rfl rfl rfl ?_)
    refine c_cons (s_val (v_loadAgg (vs := [I64 h.c, I64 h.l, I64 h.n]) rfl (by kernel_rfl) (by kernel_rfl) rfl (fun j u hj => (Cel.imm k3 (by rw [Nat.zero_add]; exact head36 hj)))) rfl rfl rfl ?_)
    refine c_cons (s_val (v_loadAgg (vs := [I64 c, I64 l, I64 num]) rfl (by kernel_rfl) (by kernel_rfl) rfl (fun j u hj => (Cel.allI kS3 hj))) rfl rfl rfl ?_)
    refine c_cons (s_val (v_is (v_eq3 rfl rfl (by kernel_rfl)) (show _ = Value.bool (decide (h.c = c ∧ h.l = l ∧ h.n = num)) by simp [Bool.and_assoc])) rfl rfl rfl ?_)
    refine ww ?_
    refine c_part_d 59 _ rfl (fun c7 => ?_) (fun c7 => ?_)
    rotate_left
    · refine ww ?_
      refine c_cons (s_call (xs := [_, _]) rfl rfl rfl rfl rfl rfl (by kernel_rfl) (fun w hs => must_f 4 _ w _ _ hs) ?_)
      rintro e w' ⟨rfl, hs'⟩
      refine a_panic ?_ hs'; clear hs'
      repeat (first | refine x_then_panic ?_ | refine x_block_panic ?_)
      exact f_panic (fun w hs => ⟨G3, hG1.trans hGi3, .inr (.inl ⟨⟨by omega, by omega⟩, bad (fun hm => by rw [hokR] at hm; obtain ⟨m1, m2, m3, m4, m5⟩ := hm; first | omega | exact c7 m2), rfl, hs.tl⟩)⟩)
    refine ww ?_
    refine c_cons (s_val (v_field 3 rfl (by kernel_rfl)) rfl rfl rfl ?_)
    refine c_cons (s_val (v_load rfl (Cel.imm k3 rfl) (by kernel_rfl)) rfl rfl rfl ?_)
    refine ww ?_
    refine c_part_d 65 _ rfl (fun c8 => ?_) (fun c8 => ?_)
    rotate_left
    · refine ww ?_
      refine c_cons (s_call (xs := [_, _]) rfl rfl rfl rfl rfl rfl (by kernel_rfl) (fun w hs => must_f 4 _ w _ _ hs) ?_)
      rintro e w' ⟨rfl, hs'⟩
      refine a_panic ?_ hs'; clear hs'
      repeat (first | refine x_then_panic ?_ | refine x_block_panic ?_)
      exact f_panic (fun w hs => ⟨G3, hG1.trans hGi3, .inr (.inl ⟨⟨by omega, by omega⟩, bad (fun hm => by rw [hokR] at hm; obtain ⟨m1, m2, m3, m4, m5⟩ := hm; first | omega | exact c7 m2), rfl, hs.tl⟩)⟩)
    refine ww ?_
    refine c_cons (s_val (v_field 4 rfl (by kernel_rfl)) rfl rfl rfl ?_)
    refine c_cons (s_val (v_load rfl (Cel.imm k3 rfl) (by kernel_rfl)) rfl rfl rfl ?_)
    refine ww ?_
    refine c_part_d 71 _ rfl (fun c9 => ?_) (fun c9 => ?_)
    rotate_left
    · refine ww ?_
      refine c_cons (s_call (xs := [_, _]) rfl rfl rfl rfl rfl rfl (by kernel_rfl) (fun w hs => must_f 4 _ w _ _ hs) ?_)
      rintro e w' ⟨rfl, hs'⟩
      refine a_panic ?_ hs'; clear hs'
      repeat (first | refine x_then_panic ?_ | refine x_block_panic ?_)
      exact f_panic (fun w hs => ⟨G3, hG1.trans hGi3, .inr (.inl ⟨⟨by omega, by omega⟩, bad (fun hm => by rw [hokR] at hm; obtain ⟨m1, m2, m3, m4, m5⟩ := hm; first | omega | exact c7 m2), rfl, hs.tl⟩)⟩)
    have fin : ∀ (env' : Env), True := fun _ => trivial
    refine ww ?_
    by_cases hok : sz < 0 ∨ h.z = sz
    rotate_left
    · refine c_kf 74 rfl (by omega) ?_
      refine ww ?_
      refine c_cons (s_val (v_field 5 rfl (by kernel_rfl)) rfl rfl rfl ?_)
      refine c_cons (s_val (v_load rfl (Cel.imm k3 rfl) (by kernel_rfl)) rfl rfl rfl ?_)
      refine ww ?_
      rw [decide_eq_false (show ¬ h.z = sz by omega)]
      refine c_cons (s_call (xs := [_, _]) rfl rfl rfl rfl rfl rfl (by kernel_rfl) (fun w hs => must_f 4 _ w _ _ hs) ?_)
      rintro e w' ⟨rfl, hs'⟩
      refine a_panic ?_ hs'; clear hs'
      repeat (first | refine x_then_panic ?_ | refine x_block_panic ?_)
      exact f_panic (fun w hs => ⟨G3, hG1.trans hGi3, .inr (.inl ⟨⟨by omega, by omega⟩, bad (fun hm => by rw [hokR] at hm; obtain ⟨m1, m2, m3, m4, m5⟩ := hm; first | omega | exact c7 m2), rfl, hs.tl⟩)⟩)
    rw [if_pos (hokR.2 ⟨c6, c7, c8, c9, hok⟩)] at hstp
    have hrb : readB b = b.drop 12 := by unfold readB; rw [if_pos (by rw [← hec]; exact c6)]
    have hrl1 : (readB b).length ≤ 1000000 := by rw [hrb, List.length_drop]; omega
    generalize readB b = rb at hu hstp hrl1
    obtain ⟨adu, cpu, rfl⟩ := hu.form
    have hrbl : rb.length ≤ 1000000 := hrl1
    by_cases hsz : sz < 0
    · refine c_kt 74 rfl hsz ?_
      refine ww ?_
      refine c_cons (s_call (xs := [_, _]) rfl rfl rfl rfl rfl rfl (by kernel_rfl) (fun w hs => must_t 4 _ w _ _ hs) ?_)
      rintro e w' ⟨rfl, hs'⟩; refine a_ret ?_ hs'; clear hs'
      refine ww ?_
      by_cases hrn : rb = []
      · subst hrn
        refine r_startS [] [] (by kernel_rfl) (fun w h => h.none) ?_
        refine r_tk 0 rfl rfl (v_move rfl) (fun _ h => h.none) ?_
        refine r_tk 1 rfl rfl (v_move rfl) (fun _ h => h.none) ?_
        refine r_tk 3 rfl rfl (v_move rfl) (fun _ h => h.none) ?_
        refine r_tk 5 rfl rfl (v_field 5 rfl (by kernel_rfl)) (fun _ h => h.none) ?_
        refine r_tk 6 rfl rfl (v_load rfl (Cel.imm k3 rfl) (by kernel_rfl)) (fun _ h => h.none) ?_
        refine r_one 2 (by kernel_rfl) rfl ?_
        refine s_lit0 (z := B8 0) (sz := 1) (bs := 1) (e := 5) (by kernel_rfl) rfl rfl fun b4 => ?_
        refine r_next (fun w h => h.none) ?_
        refine r_tk 4 rfl rfl (v_append0 rfl rfl (by kernel_rfl) (Nat.le_refl _) (by simp [maxLen])) (fun _ h => h.none) ?_
        refine r_tk 7 rfl rfl (v_index1 rfl rfl (by kernel_rfl) (by omega)) (fun _ h => h.none) ?_
        refine r_one 8 (by kernel_rfl) rfl ?_
        refine s_store1 rfl rfl rfl (.tail .head) (by kernel_rfl) rfl (by simp; omega) ?_
        rw [Nat.zero_add, Int.toNat_natCast, set_pad vs _ _ K (by omega)]
        refine r_next (fun w h => h.none) ?_
        refine r_tk 9 rfl rfl (v_assign rfl) (fun _ h => h.none) ?_
        refine r_done (by kernel_rfl) ?_
        have hl2 : (vs ++ [Sl b4 0 0 0]).length = vs.length + 1 := by simp
        have hn2 : OItems G3 (vs ++ [Sl b4 0 0 0]) (os ++ [some []]) := (hoi.up (hG2.trans hG3)).snoc ⟨⟨b4, 0, 0, rfl⟩, ⟨_, 0, rfl, Nat.le_refl _, by simp [maxLen], .inl ⟨rfl, fun _ => rfl⟩⟩⟩
        change Holds _ _ _ _ _ (RwB b2 ((vs ++ [Sl b4 0 0 0]) ++ List.replicate (K - (vs ++ [Sl b4 0 0 0]).length) (.slice none 0 0)) :: _) _
        refine ww ?_
        exact n_next (x := (Gi, vs, os, ms, sz)) (G3, vs ++ [Sl b4 0 0 0], os ++ [some []], ms, h.z) ⟨by rw [hl2]; omega, hGi3, hn2, by dsimp only; rw [hl2]; exact hstp⟩ (by dsimp only; rw [hl2]; omega) ⟨rfl, rfl, rfl, rfl, rfl, rfl, rfl, rfl, by dsimp only; rw [hl2]; rfl, trivial⟩ rfl sbx
      · skip
        refine r_startS [] [] (by kernel_rfl) (fun w h => h.none) ?_
        refine r_tk 0 rfl rfl (v_move rfl) (fun _ h => h.none) ?_
        refine r_tk 1 rfl rfl (v_move rfl) (fun _ h => h.none) ?_
        refine r_tk 3 rfl rfl (v_move rfl) (fun _ h => h.none) ?_
        refine r_tk 5 rfl rfl (v_field 5 rfl (by kernel_rfl)) (fun _ h => h.none) ?_
        refine r_tk 6 rfl rfl (v_load rfl (Cel.imm k3 rfl) (by kernel_rfl)) (fun _ h => h.none) ?_
        refine r_one 2 (by kernel_rfl) rfl ?_
        refine s_lit0 (z := B8 0) (sz := 1) (bs := 1) (e := 5) (by kernel_rfl) rfl rfl fun b4 => ?_
        refine r_next (fun w h => h.none) ?_
        refine r_one 4 (by kernel_rfl) rfl ?_
        refine s_append (e := 5) (z := B8 0) (sz := 1) (bs := 1) (by kernel_rfl) rfl rfl rfl rfl (Own.full (by simp) (by decide)) Chunk.one (hu.mono hG3 (by simp)) rfl (by decide) (by simp) (B8_one rb) (by simp; omega) (by simp; omega) fun u5 B5 hown5 => ?_
        simp only [List.length_nil, List.nil_append, Nat.zero_add] at hown5
        obtain ⟨b5, c5', hu5⟩ : ∃ b5 c5', u5 = Sl b5 0 rb.length c5' := by
          rcases hown5.2 with ⟨_, _, h0, _⟩ | ⟨b5, c5', _, h5, _⟩
          · exact absurd (List.eq_nil_of_length_eq_zero h0) hrn
          · exact ⟨b5, c5', h5⟩
        refine c_freezeO hown5 Chunk.head fun G4 hG4 hsv5 => ?_
        subst hu5
        refine r_next (fun w h => h.none.weaken hG4) ?_
        refine r_tk 7 rfl rfl (v_index1 rfl rfl (by kernel_rfl) (by omega)) (fun _ h => h.none.weaken hG4) ?_
        refine r_one 8 (by kernel_rfl) rfl ?_
        refine s_store1 rfl rfl rfl .head (by kernel_rfl) rfl (by simp; omega) ?_
        rw [Nat.zero_add, Int.toNat_natCast, set_pad vs _ _ K (by omega)]
        refine r_next (fun w h => h.none.weaken hG4) ?_
        refine r_tk 9 rfl rfl (v_assign rfl) (fun _ h => h.none.weaken hG4) ?_
        refine r_done (by kernel_rfl) ?_
        have hl2 : (vs ++ [Sl b5 0 rb.length c5']).length = vs.length + 1 := by simp
        have hn2 : OItems G4 (vs ++ [Sl b5 0 rb.length c5']) (os ++ [some rb]) := (hoi.up (hG2.trans (hG3.trans hG4))).snoc ⟨⟨b5, 0, c5', rfl⟩, hsv5⟩
        change Holds _ _ _ _ _ (RwB b2 ((vs ++ [Sl b5 0 rb.length c5']) ++ List.replicate (K - (vs ++ [Sl b5 0 rb.length c5']).length) (.slice none 0 0)) :: _) _
        refine ww ?_
        exact n_next (x := (Gi, vs, os, ms, sz)) (G4, vs ++ [Sl b5 0 rb.length c5'], os ++ [some rb], ms, h.z) ⟨by rw [hl2]; omega, hGi3.trans hG4, hn2, by dsimp only; rw [hl2]; exact hstp⟩ (by dsimp only; rw [hl2]; omega) ⟨rfl, rfl, rfl, rfl, rfl, rfl, rfl, rfl, by dsimp only; rw [hl2]; rfl, trivial⟩ rfl sbx
    · refine c_kf 74 rfl hsz ?_
      refine ww ?_
      refine c_cons (s_val (v_field 5 rfl (by kernel_rfl)) rfl rfl rfl ?_)
      refine c_cons (s_val (v_load rfl (Cel.imm k3 rfl) (by kernel_rfl)) rfl rfl rfl ?_)
      refine ww ?_
      rw [decide_eq_true (show h.z = sz by omega)]
      refine c_cons (s_call (xs := [_, _]) rfl rfl rfl rfl rfl rfl (by kernel_rfl) (fun w hs => must_t 4 _ w _ _ hs) ?_)
      rintro e w' ⟨rfl, hs'⟩; refine a_ret ?_ hs'; clear hs'
      refine ww ?_
      by_cases hrn : rb = []
      · subst hrn
        refine r_startS [] [] (by kernel_rfl) (fun w h => h.none) ?_
        refine r_tk 0 rfl rfl (v_move rfl) (fun _ h => h.none) ?_
        refine r_tk 1 rfl rfl (v_move rfl) (fun _ h => h.none) ?_
        refine r_tk 3 rfl rfl (v_move rfl) (fun _ h => h.none) ?_
        refine r_tk 5 rfl rfl (v_field 5 rfl (by kernel_rfl)) (fun _ h => h.none) ?_
        refine r_tk 6 rfl rfl (v_load rfl (Cel.imm k3 rfl) (by kernel_rfl)) (fun _ h => h.none) ?_
        refine r_one 2 (by kernel_rfl) rfl ?_
        refine s_lit0 (z := B8 0) (sz := 1) (bs := 1) (e := 5) (by kernel_rfl) rfl rfl fun b4 => ?_
        refine r_next (fun w h => h.none) ?_
        refine r_tk 4 rfl rfl (v_append0 rfl rfl (by kernel_rfl) (Nat.le_refl _) (by simp [maxLen])) (fun _ h => h.none) ?_
        refine r_tk 7 rfl rfl (v_index1 rfl rfl (by kernel_rfl) (by omega)) (fun _ h => h.none) ?_
        refine r_one 8 (by kernel_rfl) rfl ?_
        refine s_store1 rfl rfl rfl (.tail .head) (by kernel_rfl) rfl (by simp; omega) ?_
        rw [Nat.zero_add, Int.toNat_natCast, set_pad vs _ _ K (by omega)]
        refine r_next (fun w h => h.none) ?_
        refine r_tk 9 rfl rfl (v_assign rfl) (fun _ h => h.none) ?_
        refine r_done (by kernel_rfl) ?_
        have hl2 : (vs ++ [Sl b4 0 0 0]).length = vs.length + 1 := by simp
        have hn2 : OItems G3 (vs ++ [Sl b4 0 0 0]) (os ++ [some []]) := (hoi.up (hG2.trans hG3)).snoc ⟨⟨b4, 0, 0, rfl⟩, ⟨_, 0, rfl, Nat.le_refl _, by simp [maxLen], .inl ⟨rfl, fun _ => rfl⟩⟩⟩
        change Holds _ _ _ _ _ (RwB b2 ((vs ++ [Sl b4 0 0 0]) ++ List.replicate (K - (vs ++ [Sl b4 0 0 0]).length) (.slice none 0 0)) :: _) _
        refine ww ?_
        exact n_next (x := (Gi, vs, os, ms, sz)) (G3, vs ++ [Sl b4 0 0 0], os ++ [some []], ms, h.z) ⟨by rw [hl2]; omega, hGi3, hn2, by dsimp only; rw [hl2]; exact hstp⟩ (by dsimp only; rw [hl2]; omega) ⟨rfl, rfl, rfl, rfl, rfl, rfl, rfl, rfl, by dsimp only; rw [hl2]; rfl, trivial⟩ rfl sbx
      · skip
        refine r_startS [] [] (by kernel_rfl) (fun w h => h.none) ?_
        refine r_tk 0 rfl rfl (v_move rfl) (fun _ h => h.none) ?_
        refine r_tk 1 rfl rfl (v_move rfl) (fun _ h => h.none) ?_
        refine r_tk 3 rfl rfl (v_move rfl) (fun _ h => h.none) ?_
        refine r_tk 5 rfl rfl (v_field 5 rfl (by kernel_rfl)) (fun _ h => h.none) ?_
        refine r_tk 6 rfl rfl (v_load rfl (Cel.imm k3 rfl) (by kernel_rfl)) (fun _ h => h.none) ?_
        refine r_one 2 (by kernel_rfl) rfl ?_
        refine s_lit0 (z := B8 0) (sz := 1) (bs := 1) (e := 5) (by kernel_rfl) rfl rfl fun b4 => ?_
        refine r_next (fun w h => h.none) ?_
        refine r_one 4 (by kernel_rfl) rfl ?_
        refine s_append (e := 5) (z := B8 0) (sz := 1) (bs := 1) (by kernel_rfl) rfl rfl rfl rfl (Own.full (by simp) (by decide)) Chunk.one (hu.mono hG3 (by simp)) rfl (by decide) (by simp) (B8_one rb) (by simp; omega) (by simp; omega) fun u5 B5 hown5 => ?_
        simp only [List.length_nil, List.nil_append, Nat.zero_add] at hown5
        obtain ⟨b5, c5', hu5⟩ : ∃ b5 c5', u5 = Sl b5 0 rb.length c5' := by
          rcases hown5.2 with ⟨_, _, h0, _⟩ | ⟨b5, c5', _, h5, _⟩
          · exact absurd (List.eq_nil_of_length_eq_zero h0) hrn
          · exact ⟨b5, c5', h5⟩
        refine c_freezeO hown5 Chunk.head fun G4 hG4 hsv5 => ?_
        subst hu5
        refine r_next (fun w h => h.none.weaken hG4) ?_
        refine r_tk 7 rfl rfl (v_index1 rfl rfl (by kernel_rfl) (by omega)) (fun _ h => h.none.weaken hG4) ?_
        refine r_one 8 (by kernel_rfl) rfl ?_
        refine s_store1 rfl rfl rfl .head (by kernel_rfl) rfl (by simp; omega) ?_
        rw [Nat.zero_add, Int.toNat_natCast, set_pad vs _ _ K (by omega)]
        refine r_next (fun w h => h.none.weaken hG4) ?_
        refine r_tk 9 rfl rfl (v_assign rfl) (fun _ h => h.none.weaken hG4) ?_
        refine r_done (by kernel_rfl) ?_
        have hl2 : (vs ++ [Sl b5 0 rb.length c5']).length = vs.length + 1 := by simp
        have hn2 : OItems G4 (vs ++ [Sl b5 0 rb.length c5']) (os ++ [some rb]) := (hoi.up (hG2.trans (hG3.trans hG4))).snoc ⟨⟨b5, 0, c5', rfl⟩, hsv5⟩
        change Holds _ _ _ _ _ (RwB b2 ((vs ++ [Sl b5 0 rb.length c5']) ++ List.replicate (K - (vs ++ [Sl b5 0 rb.length c5']).length) (.slice none 0 0)) :: _) _
        refine ww ?_
        exact n_next (x := (Gi, vs, os, ms, sz)) (G4, vs ++ [Sl b5 0 rb.length c5'], os ++ [some rb], ms, h.z) ⟨by rw [hl2]; omega, hGi3.trans hG4, hn2, by dsimp only; rw [hl2]; exact hstp⟩ (by dsimp only; rw [hl2]; omega) ⟨rfl, rfl, rfl, rfl, rfl, rfl, rfl, rfl, by dsimp only; rw [hl2]; rfl, trivial⟩ rfl sbx
  have e : vs.length = frs.length := by omega
  rw [e, List.take_length] at hrr
  have e2 : K - vs.length = 0 := by omega
  rw [e2, List.replicate_zero, List.append_nil]
  refine ww ?_
  exact f_ret3 rfl rfl rfl rfl (fun w hs => ⟨Gi, hG1.trans hGi, .inr (.inr ⟨⟨by omega, by omega⟩, (os, ms, sz), b2, vs, hrr, rfl, hoi, hs⟩)⟩)
end

section
open Go
set_option linter.unusedVariables false
set_option linter.unusedSimpArgs false
set_option maxHeartbeats 1600000
def rsO (os : List (Option (List UInt8))) : List (List UInt8) := os.map fun o => o.getD []
/-- The row that is missing, out of the others. -/
def fillS (rs : List (List UInt8)) (ix sz n : Int) : Option (List UInt8) :=
  if 0 ≤ ix ∧ ix < rs.length ∧ 0 ≤ longS ix sz n ∧ longS ix sz n ≤ mxl (oth rs ix) then some ((pxor (oth rs ix)).take (longS ix sz n).toNat) else none
/-- A stripe's bytes, as far as k fragments go. -/
def outK (os : List (Option (List UInt8))) (sz n : Int) : Nat → Option (List UInt8)
  | 0 => some []
  | k + 1 => match outK os sz n k with
    | none => none
    | some out => match os[k]? with
      | some (some r) => some (out ++ r)
      | some none => match fillS (rsO os) k sz n with
        | some r => some (out ++ r)
        | none => none
      | none => none
theorem outK_none {os : List (Option (List UInt8))} {sz n : Int} {k : Nat} (h : outK os sz n k = none) : ∀ m, outK os sz n (k + m) = none
  | 0 => h
  | m + 1 => by
    have := outK_none h m
    show (match outK os sz n (k + m) with | none => none | some out => _) = none
    rw [this]
def finO : Option (List UInt8) → List UInt8 × Int
  | some out => (out, 0)
  | none => ([], 4)
def finS (st : RSt) (n : Int) : List UInt8 × Int := if st.2.1 ≤ 1 then (if st.2.1 = 0 ∧ ¬ (∀ c ∈ pxor (rsO st.1), c = 0) then ([], 4) else finO (outK st.1 st.2.2 n (n - 1).toNat)) else ([], 15)
/-- All of a stripe's bytes, or why not. -/
def joinS (c l num : Int) (frs : List (List UInt8)) (n : Int) : List UInt8 × Int :=
  if (3 ≤ n ∧ n ≤ 16) ∧ (frs.length : Int) = n then match rowsR c l num (-1) n frs with
    | none => ([], 4)
    | some st => finS st n
  else ([], 1)
/-- What is known of the rows. -/
structure RInv (K : Nat) (st : RSt) : Prop where
  cnt : (st.1.countP fun o => o.isNone) = st.2.1
  sz : 0 ≤ st.2.2 ∨ ∀ o, o ∈ st.1 → o = none
  len : ∀ o, o ∈ st.1 → (o.getD []).length ≤ K
theorem readB_len (b : List UInt8) : (readB b).length ≤ b.length := by
  unfold readB
  split
  · rw [List.length_drop]; omega
  · simp
theorem rows_inv (c l num n : Int) (K : Nat) (frs : List (List UInt8)) : (∀ b, b ∈ frs → b.length ≤ K) → ∀ st, rowsR c l num (-1) n frs = some st → RInv K st := by
  induction frs using snoc_ind with
  | h0 => intro _ st h; cases h; exact ⟨rfl, .inr (fun o h => by cases h), fun o h => by cases h⟩
  | h1 frs b ih =>
    intro hk st h
    rw [rowsR_snoc] at h
    cases hr : rowsR c l num (-1) n frs with
    | none => rw [hr] at h; cases h
    | some s =>
      rw [hr] at h
      obtain ⟨h1, h2, h3⟩ := ih (fun b hb => hk b (by simp [hb])) s hr
      unfold stepR at h
      dsimp only at h
      rw [if_neg (by omega)] at h
      split at h
      · cases h
        refine ⟨?_, ?_, ?_⟩
        · dsimp only; rw [List.countP_append]; simp; omega
        · dsimp only
          rcases h2 with h2 | h2
          · exact .inl h2
          · refine .inr fun o ho => ?_
            rcases List.mem_append.1 ho with ho | ho
            · exact h2 o ho
            · simpa using ho
        · intro o ho
          rcases List.mem_append.1 ho with ho | ho
          · exact h3 o ho
          · have : o = none := by simpa using ho
            rw [this]; simp
      · split at h
        · cases h
          refine ⟨?_, .inl ?_, ?_⟩
          · dsimp only; rw [List.countP_append]; simp; omega
          · dsimp only
            unfold readH
            split
            · have := (hdOf_gd b).2.2.2.2.2; omega
            · decide
          · intro o ho
            rcases List.mem_append.1 ho with ho | ho
            · exact h3 o ho
            · have : o = some (readB b) := by simpa using ho
              rw [this]
              have h1 := readB_len b
              have h2 := hk b (by simp)
              show (readB b).length ≤ K
              omega
        · cases h
theorem one_none {os : List (Option (List UInt8))} (h : (os.countP fun o => o.isNone) ≤ 1) {i j : Nat} (hi : os[i]? = some none) (hj : os[j]? = some none) : i = j := by
  have key : ∀ i j : Nat, i < j → os[i]? = some none → os[j]? = some none → False := by
    intro i j hij hi hj
    have e : os = os.take (i + 1) ++ os.drop (i + 1) := (List.take_append_drop _ _).symm
    have h1 : 0 < (os.take (i + 1)).countP fun o => o.isNone := List.countP_pos_iff.2 ⟨none, List.mem_of_getElem? (i := i) (by rw [List.getElem?_take_of_lt (by omega)]; exact hi), rfl⟩
    have h2 : 0 < (os.drop (i + 1)).countP fun o => o.isNone := List.countP_pos_iff.2 ⟨none, List.mem_of_getElem? (i := j - (i + 1)) (by rw [List.getElem?_drop, show i + 1 + (j - (i + 1)) = j by omega]; exact hj), rfl⟩
    have h3 : (os.countP fun o => o.isNone) = ((os.take (i + 1)).countP fun o => o.isNone) + ((os.drop (i + 1)).countP fun o => o.isNone) := by rw [← List.countP_append, ← e]
    omega
  rcases Nat.lt_trichotomy i j with h | h | h
  · exact (key i j h hi hj).elim
  · exact h
  · exact (key j i h hj hi).elim
theorem OItems.items {G : Im} {vs : List Value} {os : List (Option (List UInt8))} (h : OItems G vs os) : Items G vs (rsO os) := by
  refine ⟨by simp [rsO, h.1], fun j v r hv hr => ?_⟩
  unfold rsO at hr
  rw [List.getElem?_map] at hr
  cases ho : os[j]? with
  | none => rw [ho] at hr; cases hr
  | some o =>
    rw [ho] at hr
    have hi := h.2 j v o hv ho
    cases o with
    | none =>
      have hv' : v = .slice none 0 0 := hi
      have hr' : r = [] := by simpa using hr.symm
      subst hv' hr'
      exact SV.nil _ _
    | some x =>
      have hr' : r = x := by simpa using hr.symm
      subst hr'
      exact hi.2
attribute [local irreducible] Code.wp wpList stepK Holds Val wpR Eff Eff0 Code.wpIn wpListIn stepI Exit.then Exit.inBlock bodyPost bodyPostM

theorem filled_c (v : Value) (rs : List (List UInt8)) (ix sz n : Int) (hix : 0 ≤ ix ∧ ix ≤ 255) (hsz : 0 ≤ sz ∧ sz ≤ 100000) (hn : 3 ≤ n ∧ n ≤ 16) (hmx : mxl rs ≤ 140737488355328) (w0 w : World) (G : Im) (F : Hp) (hv : RowsV G v rs) (hs : Sat w0 w G F) :
    Calls Try.prog 67 #[v, I64 ix, I64 sz, I64 n] w fun e w' => ∃ G', Im.le G G' ∧ ((fillS rs ix sz n = none ∧ e = .panicked (lgone 4) ∧ Sat w0 w' G' F) ∨
      (∃ b, fillS rs ix sz n = some ((pxor (oth rs ix)).take (longS ix sz n).toNat) ∧ (longS ix sz n).toNat ≤ (pxor (oth rs ix)).length ∧ e = .returned (Sl b 0 (longS ix sz n).toNat (longS ix sz n).toNat) ∧ Sat w0 w' G' ((b, Cs ((pxor (oth rs ix)).map B8) 5) :: F))) := by
  refine f_enter (vs := [_, _, _, _]) Try.func67 rfl Try.ntmps67 (by simp) hs ?_
  refine ww ?_
  refine c_cons (s_val (v_build (ps := [_, _, _]) #[I64 0, I64 0, I64 0, I64 ix, I64 n, I64 sz] rfl (by kernel_rfl)) rfl rfl rfl ?_)
  refine c_cons (s_call (xs := [_]) rfl rfl rfl rfl rfl rfl (by kernel_rfl) (fun w hs => llong_c ⟨0, 0, 0, ix, n, sz⟩ hix hsz hn _ w _ _ hs) ?_)
  rintro e w' ⟨rfl, hs'⟩; refine a_ret ?_ hs'; clear hs'
  dsimp only
  obtain ⟨q, hq⟩ : ∃ q, q = longS ix sz n := ⟨_, rfl⟩
  unfold fillS
  rw [← hq]
  refine ww ?_
  refine c_cons (s_call (xs := [_, _, _]) rfl rfl rfl rfl rfl rfl (by kernel_rfl) (fun w hs => fill_c v rs ix q _ w _ _ hv hmx (by omega) hs) ?_)
  rintro e w' ⟨G1, hG1, ⟨hno, rfl, hs'⟩ | ⟨hyes, b, rfl, hs'⟩⟩
  · refine a_ret ?_ hs'; clear hs'
    refine ww ?_
    refine c_cons (s_call (xs := [_, _]) rfl rfl rfl rfl rfl rfl (by kernel_rfl) (fun w hs => must_f 4 _ w _ _ hs) ?_)
    rintro e w' ⟨rfl, hs'⟩
    refine a_panic ?_ hs'; clear hs'
    repeat (first | refine x_then_panic ?_ | refine x_block_panic ?_)
    exact f_panic (fun w hs => ⟨G1, hG1, .inl ⟨by rw [if_neg hno], rfl, hs⟩⟩)
  · refine a_ret ?_ hs'; clear hs'
    refine ww ?_
    refine c_cons (s_call (xs := [_, _]) rfl rfl rfl rfl rfl rfl (by kernel_rfl) (fun w hs => must_t 4 _ w _ _ hs) ?_)
    rintro e w' ⟨rfl, hs'⟩; refine a_ret ?_ hs'; clear hs'
    refine ww ?_
    exact f_ret1 rfl rfl (fun w hs => ⟨G1, hG1, .inr ⟨b, by rw [if_pos hyes], by rw [pxor_length]; omega, rfl, hs⟩⟩)

theorem filledO_c (bl : Nat) (vs : List Value) (os : List (Option (List UInt8))) (ix sz n : Int) (hix : 0 ≤ ix ∧ ix ≤ 255) (hsz : 0 ≤ sz ∧ sz ≤ 100000) (hn : 3 ≤ n ∧ n ≤ 16) (hmx : mxl (rsO os) ≤ 140737488355328) (hl : vs.length ≤ 1000) (w0 w : World) (G : Im) (F : Hp) (hv : OItems G vs os) (hs : Sat w0 w G (RwB bl vs :: F)) :
    Calls Try.prog 67 #[Sl bl 0 vs.length vs.length, I64 ix, I64 sz, I64 n] w fun e w' => ∃ G', Im.le G G' ∧ ((fillS (rsO os) ix sz n = none ∧ e = .panicked (lgone 4) ∧ Sat w0 w' G' (RwB bl vs :: F)) ∨
      (∃ b, fillS (rsO os) ix sz n = some ((pxor (oth (rsO os) ix)).take (longS ix sz n).toNat) ∧ (longS ix sz n).toNat ≤ (pxor (oth (rsO os) ix)).length ∧ e = .returned (Sl b 0 (longS ix sz n).toNat (longS ix sz n).toNat) ∧ Sat w0 w' G' ((b, Cs ((pxor (oth (rsO os) ix)).map B8) 5) :: RwB bl vs :: F))) := by
  have hGb : G bl = none := hs.sep _ (List.mem_cons_self ..)
  have hG2 : Im.le G (G.add bl (Cs vs 22)) := Im.le_add hGb
  have hsv : SV (G.add bl (Cs vs 22)) [] (Sl bl 0 vs.length vs.length) vs.length vs := SV.block (.of_imm (Im.add_self G bl _)) (by unfold maxLen; omega)
  refine (filled_c _ (rsO os) ix sz n hix hsz hn hmx w0 w _ F ⟨vs, hsv, (hv.up hG2).items⟩ hs.freeze).mono fun e w' ⟨G', hG', h⟩ => ?_
  have hk := hG' _ _ (Im.add_self G bl (Cs vs 22))
  refine ⟨Im.del G' bl, Im.le_del (hG2.trans hG') hGb, ?_⟩
  rcases h with ⟨h1, h2, h3⟩ | ⟨b, h1, h2, h3, h4⟩
  · exact .inl ⟨h1, h2, h3.thaw hk⟩
  · exact .inr ⟨b, h1, h2, h3, (h4.thaw hk).perm (List.Perm.swap _ _ _)⟩

theorem holdsO_c (bl : Nat) (vs : List Value) (os : List (Option (List UInt8))) (hmx : mxl (rsO os) ≤ 140737488355328) (hl : vs.length ≤ 1000) (w0 w : World) (G : Im) (F : Hp) (hv : OItems G vs os) (hs : Sat w0 w G (RwB bl vs :: F)) :
    Calls Try.prog 66 #[Sl bl 0 vs.length vs.length] w fun e w' => ∃ G', e = .returned (.bool (decide (∀ c ∈ pxor (rsO os), c = 0))) ∧ Im.le G G' ∧ Sat w0 w' G' (RwB bl vs :: F) := by
  have hGb : G bl = none := hs.sep _ (List.mem_cons_self ..)
  have hG2 : Im.le G (G.add bl (Cs vs 22)) := Im.le_add hGb
  have hsv : SV (G.add bl (Cs vs 22)) [] (Sl bl 0 vs.length vs.length) vs.length vs := SV.block (.of_imm (Im.add_self G bl _)) (by unfold maxLen; omega)
  refine (holds_c _ (rsO os) w0 w _ F ⟨vs, hsv, (hv.up hG2).items⟩ hmx hs.freeze).mono fun e w' ⟨G', he, hG', h⟩ => ?_
  have hk := hG' _ _ (Im.add_self G bl (Cs vs 22))
  exact ⟨Im.del G' bl, he, Im.le_del (hG2.trans hG') hGb, h.thaw hk⟩
end

section
open Go
set_option linter.unusedVariables false
set_option linter.unusedSimpArgs false
set_option maxHeartbeats 1600000
theorem sv_front {G : Im} {b : Nat} {L : List UInt8} {q : Nat} {t : TypeId} (hb : G b = some (Cs (L.map B8) t)) (hq : q ≤ L.length) (hm : L.length ≤ 1000000) : SV G [] (Sl b 0 q q) (L.take q).length ((L.take q).map B8) := by
  have e : (L.take q).length = q := by rw [List.length_take]; omega
  rw [e]
  refine ⟨_, q, rfl, Nat.le_refl _, by unfold maxLen; omega, .inr ⟨b, 0, rfl, fun j u hj => ⟨_, _, _, .of_imm hb, ?_⟩⟩⟩
  simp only [List.getElem?_toArray, Nat.zero_add]
  rw [List.getElem?_map] at hj ⊢
  by_cases h : j < q
  · rw [List.getElem?_take_of_lt h] at hj; exact hj
  · rw [List.getElem?_eq_none (by rw [e]; omega)] at hj; cases hj
/-- The rows now: as they were, but for one that was put in. -/
def Cur (os cs : List (Option (List UInt8))) (k : Nat) : Prop := cs.length = os.length ∧ ∀ j, cs[j]? = os[j]? ∨ (os[j]? = some none ∧ j < k)
theorem Cur.at {os cs : List (Option (List UInt8))} {k : Nat} (h : Cur os cs k) : cs[k]? = os[k]? := by
  rcases h.2 k with h | ⟨_, h⟩
  · exact h
  · omega
theorem Cur.eq {os cs : List (Option (List UInt8))} {k : Nat} (h : Cur os cs k) (h1 : (os.countP fun o => o.isNone) ≤ 1) (hk : os[k]? = some none) : cs = os := by
  refine List.ext_getElem? fun j => ?_
  rcases h.2 j with h | ⟨hj, hjk⟩
  · exact h
  · have := one_none h1 hj hk
    omega
theorem Cur.next {os cs : List (Option (List UInt8))} {k : Nat} (h : Cur os cs k) : Cur os cs (k + 1) := ⟨h.1, fun j => by
  rcases h.2 j with h | ⟨h1, h2⟩
  · exact .inl h
  · exact .inr ⟨h1, by omega⟩⟩
theorem Cur.put {os : List (Option (List UInt8))} {k : Nat} (hk : os[k]? = some none) (r : List UInt8) : Cur os (os.set k (some r)) (k + 1) := ⟨by simp, fun j => by
  by_cases h : j = k
  · subst h; exact .inr ⟨hk, by omega⟩
  · exact .inl (by rw [List.getElem?_set_ne (Ne.symm h)])⟩
theorem OItems.set {G : Im} {vs : List Value} {os : List (Option (List UInt8))} (h : OItems G vs os) {k : Nat} {u : Value} {o : Option (List UInt8)} (hu : OIt G u o) : OItems G (vs.set k u) (os.set k o) := by
  refine ⟨by simp [h.1], fun j v x hv hx => ?_⟩
  by_cases hj : k = j
  · subst hj
    have h1 : k < vs.length := by have := (List.getElem?_eq_some_iff.1 hv).1; simpa using this
    have h2 : k < os.length := by have := (List.getElem?_eq_some_iff.1 hx).1; simpa using this
    rw [List.getElem?_set_self h1] at hv
    rw [List.getElem?_set_self h2] at hx
    cases hv
    cases hx
    exact hu
  · rw [List.getElem?_set_ne hj] at hv hx
    exact h.2 j v x hv hx
attribute [local irreducible] Code.wp wpList stepK Holds Val wpR Eff Eff0 Code.wpIn wpListIn stepI Exit.then Exit.inBlock bodyPost bodyPostM

theorem joined_c (c l num n : Int) (vf : Value) (frs : List (List UInt8)) (hml : ∀ b, b ∈ frs → b.length ≤ 100000) (w0 w : World) (G : Im) (F : Hp) (hv : RowsV G vf frs) (hs : Sat w0 w G F) :
    Calls Try.prog 48 #[.agg #[I64 c, I64 l, I64 num], vf, I64 n] w fun e w' => ∃ G', Im.le G G' ∧ Sat w0 w' G' F ∧ (((joinS c l num frs n).2 ≠ 0 ∧ e = .panicked (lgone (joinS c l num frs n).2)) ∨
      ((joinS c l num frs n).2 = 0 ∧ ∃ u, e = .returned u ∧ SV G' [] u (joinS c l num frs n).1.length ((joinS c l num frs n).1.map B8))) := by
  refine f_enter (vs := [_, _, _]) Try.func48 rfl Try.ntmps48 (by simp) hs ?_
  refine ww ?_
  refine c_cons (s_boxA [I64 c, I64 l, I64 num] rfl rfl rfl fun b1 => ?_)
  refine c_freeze .head fun G1 hG1 kS => ?_
  refine ww ?_
  refine c_cons (s_val (v_loadAgg (vs := [I64 c, I64 l, I64 num]) rfl (by kernel_rfl) (by kernel_rfl) rfl (fun j u hj => (Cel.allI kS hj))) rfl rfl rfl ?_)
  refine ww ?_
  refine c_cons (s_call (xs := [_, _, _, _]) rfl rfl rfl rfl rfl rfl (by kernel_rfl) (fun w hs => rows_c c l num (-1) n _ frs hml _ w _ _ (hv.mono hG1) hs) ?_)
  rintro e w' ⟨G2, hG2, ⟨hno, rfl, hs'⟩ | ⟨hok, hnone, rfl, hs'⟩ | ⟨hok, st, bl, vs, hst, rfl, hit, hs'⟩⟩
  · have ej : joinS c l num frs n = ([], 1) := by unfold joinS; rw [if_neg hno]
    rw [ej]
    refine a_panic ?_ hs'; clear hs'
    repeat (first | refine x_then_panic ?_ | refine x_block_panic ?_)
    exact f_panic (fun w hs => ⟨G2, hG1.trans hG2, hs, .inl ⟨by decide, rfl⟩⟩)
  · have ej : joinS c l num frs n = ([], 4) := by unfold joinS; rw [if_pos hok, hnone]
    rw [ej]
    refine a_panic ?_ hs'; clear hs'
    repeat (first | refine x_then_panic ?_ | refine x_block_panic ?_)
    exact f_panic (fun w hs => ⟨G2, hG1.trans hG2, hs, .inl ⟨by decide, rfl⟩⟩)
  refine a_ret ?_ hs'; clear hs'
  have hinv := rows_inv c l num n 100000 frs hml st hst
  have hin := rowsR_in c l num (-1) n frs st hst
  have ej : joinS c l num frs n = finS st n := by unfold joinS; rw [if_pos hok, hst]
  obtain ⟨os, ms, sz⟩ := st
  dsimp only at hinv hin ej hit ⊢
  obtain ⟨hin1, hin2, hin3, hin4, hin5⟩ := hin
  obtain ⟨hcnt, hsz, hlen⟩ := hinv
  dsimp only at hin1 hin2 hin3 hin4 hin5 hcnt hsz hlen
  unfold finS at ej
  dsimp only at ej
  have hvl := hit.1
  have hmx : mxl (rsO os) ≤ 100000 := mxl_le.2 fun r hr => by
    obtain ⟨o, ho, rfl⟩ := List.mem_map.1 hr
    exact hlen o ho
  have hG12 := hG1.trans hG2
  refine ww ?_
  by_cases c1 : ms ≤ 1
  rotate_left
  · rw [if_neg c1] at ej
    rw [ej, decide_eq_false c1]
    refine c_cons (s_call (xs := [_, _]) rfl rfl rfl rfl rfl rfl (by kernel_rfl) (fun w hs => must_f 15 _ w _ _ hs) ?_)
    rintro e w' ⟨rfl, hs'⟩
    refine a_panic ?_ hs'; clear hs'
    repeat (first | refine x_then_panic ?_ | refine x_block_panic ?_)
    exact f_panic (fun w hs => ⟨G2, hG12, hs.tl, .inl ⟨by decide, rfl⟩⟩)
  rw [if_pos c1] at ej
  rw [decide_eq_true c1]
  refine c_cons (s_call (xs := [_, _]) rfl rfl rfl rfl rfl rfl (by kernel_rfl) (fun w hs => must_t 15 _ w _ _ hs) ?_)
  rintro e w' ⟨rfl, hs'⟩; refine a_ret ?_ hs'; clear hs'
  refine wn ?_
  refine c_cut (α := Im) (fun _ => [(2, I64 n), (7, Sl bl 0 frs.length frs.length), (9, I64 sz)]) (fun x => x) (fun _ => RwB bl vs :: F) (fun x => Im.le G2 x ∧ joinS c l num frs n = finO (outK os sz n (n - 1).toNat)) ?_ ?_
  · -- does it hold?
    refine ww ?_
    refine c_cond_d rfl (fun c2 => ?_) (fun c2 => ?_)
    · -- then
      have hvf : vs.length = frs.length := by omega
      rw [← hvf]
      refine ww ?_
      refine c_cons (s_call (xs := [_]) rfl rfl rfl rfl rfl rfl (by kernel_rfl) (fun w hs => holdsO_c bl vs os (by omega) (by omega) _ w _ _ hit hs) ?_)
      rintro e w' ⟨G3, rfl, hG3, hs'⟩; refine a_ret ?_ hs'; clear hs'
      refine ww ?_
      by_cases c3 : ∀ c ∈ pxor (rsO os), c = 0
      · rw [if_neg (fun h => h.2 c3)] at ej
        rw [decide_eq_true c3]
        refine c_cons (s_call (xs := [_, _]) rfl rfl rfl rfl rfl rfl (by kernel_rfl) (fun w hs => must_t 4 _ w _ _ hs) ?_)
        rintro e w' ⟨rfl, hs'⟩; refine a_ret ?_ hs'; clear hs'
        refine ww ?_
        exact n_mid G3 ⟨hG3, ej⟩ ⟨rfl, rfl, rfl, trivial⟩ rfl sbx
      · rw [if_pos ⟨c2, c3⟩] at ej
        rw [ej, decide_eq_false c3]
        refine c_cons (s_call (xs := [_, _]) rfl rfl rfl rfl rfl rfl (by kernel_rfl) (fun w hs => must_f 4 _ w _ _ hs) ?_)
        rintro e w' ⟨rfl, hs'⟩
        refine a_panic ?_ hs'; clear hs'
        repeat (first | refine x_then_panic ?_ | refine x_block_panic ?_)
        exact f_panic (fun w hs => ⟨G3, hG12.trans hG3, hs.tl, .inl ⟨by decide, rfl⟩⟩)
    rw [if_neg (fun h => c2 h.1)] at ej
    refine ww ?_
    exact n_mid G2 ⟨Im.le_refl _, ej⟩ ⟨rfl, rfl, rfl, trivial⟩ rfl sbx
  rintro G3 ⟨hG3, ej3⟩
  clear ej
  replace hit := hit.up hG3
  have hG13 := hG12.trans hG3
  have hcnt1 : (os.countP fun o => o.isNone) ≤ 1 := by omega
  refine ww ?_
  refine c_loop (α := Nat × Im × List Value × List (Option (List UInt8)) × Value × Hp × List UInt8) (fun x => [(2, I64 n), (7, Sl bl 0 frs.length frs.length), (9, I64 sz), (10, x.2.2.2.2.1), (29, I64 (n - 1)), (30, I64 x.1)]) (fun x => x.2.1) (fun x => RwB bl x.2.2.1 :: (x.2.2.2.2.2.1 ++ F)) (fun x => (x.1 : Int) ≤ n - 1 ∧ Im.le G3 x.2.1 ∧ OItems x.2.1 x.2.2.1 x.2.2.2.1 ∧ Cur os x.2.2.2.1 x.1 ∧ OB x.2.2.2.2.1 x.2.2.2.2.2.2 x.2.2.2.2.2.1 ∧ outK os sz n x.1 = some x.2.2.2.2.2.2 ∧ x.2.2.2.2.2.2.length ≤ x.1 * 100000) (fun x => (n - 1).toNat - x.1) (0, G3, vs, os, .slice none 0 0, [], []) ⟨by dsimp only; omega, Im.le_refl _, hit, ⟨rfl, fun j => .inl rfl⟩, Own.zero none _ _, rfl, by simp⟩ ?_ ?_
  · exact n_at ⟨rfl, rfl, rfl, rfl, rfl, rfl, trivial⟩ (show SubH (RwB bl vs :: ([] ++ F)) _ from sbx)
  rintro ⟨k, Gk, cvs, cs, v, B, out⟩ ⟨hk, hGk, hci, hcur, hob, hout, hol⟩
  dsimp only at hk hGk hci hcur hob hout hol ⊢
  have hcl := hcur.1
  have hcvl := hci.1
  refine ww ?_
  refine c_cond_d rfl (fun c4 => ?_) (fun c4 => ?_)
  · -- then
    have hkn : k < 15 := by omega
    have hkos : k < os.length := by omega
    obtain ⟨o, ho⟩ : ∃ o, os[k]? = some o := ⟨_, List.getElem?_eq_getElem hkos⟩
    have hck : cs[k]? = some o := by rw [hcur.at, ho]
    obtain ⟨u, hu⟩ : ∃ u, cvs[k]? = some u := ⟨_, List.getElem?_eq_getElem (by omega)⟩
    have huo := hci.2 k u o hu hck
    have hcel : ∀ (G : Im) (H : Hp), Cel G (RwB bl cvs :: H) bl (0 + (k : Int).toNat) u := fun G H => Cel.head (by rw [Nat.zero_add, Int.toNat_natCast]; exact hu)
    cases o with
    | some r =>
      have hrl : r.length ≤ 100000 := hlen (some r) (List.mem_of_getElem? ho)
      obtain ⟨⟨ub, uo, uc, rfl⟩, hsv⟩ := huo
      have hok1 : outK os sz n (k + 1) = some (out ++ r) := by
        show (match outK os sz n k with | none => none | some out => _) = _
        rw [hout]; dsimp only; rw [ho]
      refine ww ?_
      refine c_cons (s_val (v_index1 rfl rfl (by kernel_rfl) (by omega)) rfl rfl rfl ?_)
      refine c_cons (s_val (v_load rfl (hcel _ _) (by kernel_rfl)) rfl rfl rfl ?_)
      refine c_cons (s_val (v_eqnilS rfl rfl (by kernel_rfl)) rfl rfl rfl ?_)
      refine ww ?_
      refine c_cond_f rfl ?_
      refine ww ?_
      refine c_cons (s_val (v_index1 rfl rfl (by kernel_rfl) (by omega)) rfl rfl rfl ?_)
      refine c_cons (s_val (v_load rfl (hcel _ _) (by kernel_rfl)) rfl rfl rfl ?_)
      refine c_cons (s_append (e := 5) (z := B8 0) (sz := 1) (bs := 1) (by kernel_rfl) rfl rfl rfl rfl hob (Chunk.tail Chunk.head) (hsv.mono (Im.le_refl _) (by simp)) rfl (by decide) (by simp) (B8_one r) (by omega) (by omega) fun v2 B2 hown2 => ?_)
      rw [← List.map_append, ← List.length_append] at hown2
      refine ww ?_
      exact n_next (x := (k, Gk, cvs, cs, v, B, out)) (k + 1, Gk, cvs, cs, v2, B2, out ++ r) ⟨by dsimp only; omega, hGk, hci, hcur.next, hown2, hok1, by dsimp only; rw [List.length_append]; omega⟩ (by dsimp only; omega) ⟨rfl, rfl, rfl, rfl, rfl, rfl, trivial⟩ rfl sbx
    | none =>
      have hu0 : u = .slice none 0 0 := huo
      subst hu0
      have hcs := hcur.eq hcnt1 ho
      subst hcs
      have hsz0 : 0 ≤ sz := by
        rcases hsz with h | h
        · exact h
        · exfalso
          have h0 := h _ (List.getElem_mem (show 0 < cs.length by omega))
          have h1 := h _ (List.getElem_mem (show 1 < cs.length by omega))
          have := one_none hcnt1 (i := 0) (j := 1) (by rw [List.getElem?_eq_getElem (by omega), h0]) (by rw [List.getElem?_eq_getElem (by omega), h1])
          omega
      have hvf : cvs.length = frs.length := by omega
      refine ww ?_
      refine c_cons (s_val (v_index1 rfl rfl (by kernel_rfl) (by omega)) rfl rfl rfl ?_)
      refine c_cons (s_val (v_load rfl (hcel _ _) (by kernel_rfl)) rfl rfl rfl ?_)
      refine c_cons (s_val (v_eqnilS rfl rfl (by kernel_rfl)) rfl rfl rfl ?_)
      refine ww ?_
      refine c_cond_t rfl ?_
      rw [← hvf]
      refine ww ?_
      refine c_cons (s_call (xs := [_, _, _, _]) rfl rfl rfl rfl rfl rfl (by kernel_rfl) (fun w hs => filledO_c bl cvs cs k sz n (by omega) (by omega) hok.1 (by omega) (by omega) _ w _ _ hci hs) ?_)
      rintro e w' ⟨G5, hG5, ⟨hno, rfl, hs'⟩ | ⟨b5, hyes, hle, rfl, hs'⟩⟩
      · have hok1 : outK cs sz n (k + 1) = none := by
          show (match outK cs sz n k with | none => none | some out => _) = _
          rw [hout]; dsimp only; rw [ho]; dsimp only; rw [hno]
        have hfin := outK_none hok1 ((n - 1).toNat - (k + 1))
        rw [show k + 1 + ((n - 1).toNat - (k + 1)) = (n - 1).toNat by omega] at hfin
        rw [hfin] at ej3
        rw [ej3]
        refine a_panic ?_ hs'; clear hs'
        repeat (first | refine x_then_panic ?_ | refine x_block_panic ?_)
        exact f_panic (fun w hs => ⟨G5, hG13.trans (hGk.trans hG5), hs.sb, .inl ⟨by decide, rfl⟩⟩)
      · refine a_ret ?_ hs'; clear hs'
        refine c_freeze .head fun G6 hG6 k6 => ?_
        have hpl : (pxor (oth (rsO cs) k)).length ≤ 100000 := by rw [pxor_length]; have := oth_mxl (rsO cs) k; omega
        have hsv := sv_front k6 hle (by omega)
        obtain ⟨q, hq⟩ : ∃ q, q = (longS k sz n).toNat := ⟨_, rfl⟩
        rw [← hq] at hyes hle hsv ⊢
        have hrq : ((pxor (oth (rsO cs) k)).take q).length = q := by rw [List.length_take]; omega
        obtain ⟨r, hr⟩ : ∃ r, r = (pxor (oth (rsO cs) k)).take q := ⟨_, rfl⟩
        rw [← hr] at hyes hsv hrq
        have hok1 : outK cs sz n (k + 1) = some (out ++ r) := by
          show (match outK cs sz n k with | none => none | some out => _) = _
          rw [hout]; dsimp only; rw [ho]; dsimp only; rw [hyes]
        have hci6 := (hci.up (hG5.trans hG6)).set (k := k) (u := Sl b5 0 q q) (o := some r) ⟨⟨b5, 0, q, by rw [hrq]⟩, hsv⟩
        have hcv6 : (cvs.set k (Sl b5 0 q q))[k]? = some (Sl b5 0 q q) := List.getElem?_set_self (by omega)
        have hcel6 : ∀ (G : Im) (H : Hp), Cel G (RwB bl (cvs.set k (Sl b5 0 q q)) :: H) bl (0 + (k : Int).toNat) (Sl b5 0 q q) := fun G H => Cel.head (by rw [Nat.zero_add, Int.toNat_natCast]; exact hcv6)
        refine ww ?_
        refine c_cons (s_val (v_index1 rfl rfl (by kernel_rfl) (by omega)) rfl rfl rfl ?_)
        refine c_cons (s_store1 rfl rfl rfl .head (by kernel_rfl) rfl (by rw [Nat.zero_add, Int.toNat_natCast]; omega) ?_)
        rw [Nat.zero_add, Int.toNat_natCast]
        change Holds _ _ _ _ _ (RwB bl (cvs.set k (Sl b5 0 q q)) :: _) _
        refine ww ?_
        refine c_cons (s_val (v_index1 rfl rfl (by kernel_rfl) (by omega)) rfl rfl rfl ?_)
        refine c_cons (s_val (v_load rfl (hcel6 _ _) (by kernel_rfl)) rfl rfl rfl ?_)
        refine c_cons (s_append (e := 5) (z := B8 0) (sz := 1) (bs := 1) (by kernel_rfl) rfl rfl rfl rfl hob (Chunk.tail Chunk.head) (by rw [hrq] at hsv; exact hsv.mono (Im.le_refl _) (by simp)) rfl (by decide) (by simp [hrq]) (B8_one r) (by omega) (by omega) fun v2 B2 hown2 => ?_)
        rw [← hrq, ← List.map_append, ← List.length_append] at hown2
        refine ww ?_
        exact n_next (x := (k, Gk, cvs, cs, v, B, out)) (k + 1, G6, cvs.set k (Sl b5 0 q q), cs.set k (some r), v2, B2, out ++ r) ⟨by dsimp only; omega, hGk.trans (hG5.trans hG6), hci6, Cur.put ho r, hown2, hok1, by dsimp only; rw [List.length_append]; omega⟩ (by dsimp only; omega) ⟨rfl, rfl, rfl, rfl, rfl, rfl, trivial⟩ rfl sbx
  have e : k = (n - 1).toNat := by omega
  rw [e] at hout
  rw [hout] at ej3
  rw [ej3]
  refine ww ?_
  refine c_freezeO hob (Chunk.tail Chunk.head) fun G9 hG9 hsv9 => ?_
  exact f_ret1 rfl rfl (fun w hs => ⟨G9, hG13.trans (hGk.trans hG9), hs.tl, .inr ⟨rfl, v, rfl, hsv9⟩⟩)
end

section
open Go
set_option linter.unusedVariables false
set_option linter.unusedSimpArgs false
set_option maxHeartbeats 1600000
theorem finO_err (o : Option (List UInt8)) (h : (finO o).2 ≠ 0) : (finO o).1 = [] := by
  cases o with
  | none => rfl
  | some x => exact absurd rfl h
theorem finS_err (st : RSt) (n : Int) (h : (finS st n).2 ≠ 0) : (finS st n).1 = [] := by
  unfold finS at h ⊢
  by_cases h1 : st.2.1 ≤ 1
  · rw [if_pos h1] at h ⊢
    by_cases h2 : st.2.1 = 0 ∧ ¬ (∀ c ∈ pxor (rsO st.1), c = 0)
    · rw [if_pos h2]
    · rw [if_neg h2] at h ⊢; exact finO_err _ h
  · rw [if_neg h1]
theorem joinS_err (c l num : Int) (frs : List (List UInt8)) (n : Int) (h : (joinS c l num frs n).2 ≠ 0) : (joinS c l num frs n).1 = [] := by
  unfold joinS at h ⊢
  by_cases h1 : (3 ≤ n ∧ n ≤ 16) ∧ (frs.length : Int) = n
  · rw [if_pos h1] at h ⊢
    cases hr : rowsR c l num (-1) n frs with
    | none => rfl
    | some st => rw [hr] at h; exact finS_err st n h
  · rw [if_neg h1]
attribute [local irreducible] Code.wp wpList stepK Holds Val wpR Eff Eff0 Code.wpIn wpListIn stepI Exit.then Exit.inBlock bodyPost bodyPostM

theorem catchJ_n (eb ob : Nat) (w0 w : World) (G : Im) (F : Hp) (hs : Sat w0 w G F) :
    CallsD Try.prog 47 #[Pt eb 0, Pt ob 0] .returning w fun e u w' => (∃ r, e = .returned r) ∧ settle u = .returning ∧ Sat w0 w' G F := by
  refine q_enter (vs := [_, _]) Try.func47 rfl Try.ntmps47 (by simp) hs fun c₀ cs hm => ?_
  refine q_seq (q_regionL [0, 1] rfl ?_)
  refine q_rec_n rfl rfl rfl (by simp [recoverD, hm]) ?_
  refine q_call (xs := [_, _]) rfl rfl rfl rfl rfl rfl rfl (by kernel_rfl) (fun w hs => caught_n eb _ w _ _ hs) ?_
  rintro e w' ⟨rfl, hs'⟩
  refine ⟨_, rfl, Holds.atw ?_ hs'⟩
  clear hs'
  refine q_nil (q_then (q_plain ?_))
  refine c_cond_f rfl ?_
  refine ww ?_
  exact q_end (u' := c₀.mode) rfl rfl (fun w hs => ⟨⟨_, rfl⟩, by rw [hm]; rfl, hs⟩)

theorem catchJ_s (eb ob : Nat) (c c0 : Int) (v : Value) (w0 w : World) (G : Im) (F : Hp) (hs : Sat w0 w G (ErO eb c0 :: ByO ob v :: F)) :
    CallsD Try.prog 47 #[Pt eb 0, Pt ob 0] (.panicking (lgone c)) w fun e u w' => (∃ r, e = .returned r) ∧ settle u = .returning ∧ Sat w0 w' G (ErO eb c :: ByO ob (.slice none 0 0) :: F) := by
  refine q_enter (vs := [_, _]) Try.func47 rfl Try.ntmps47 (by simp) hs fun c₀ cs hm => ?_
  refine q_seq (q_regionL [0, 1] rfl ?_)
  refine q_rec_s (v := .iface 94 (.agg #[I64 c])) (cs' := { c₀ with mode := .panicking (lrec c) } :: cs) rfl rfl rfl (by simp [recoverD, hm, lgone, lrec]) ?_
  refine q_call (xs := [_, _]) rfl rfl rfl rfl rfl rfl rfl (by kernel_rfl) (fun w hs => caught_s eb c c0 _ w _ _ hs) ?_
  rintro e w' ⟨rfl, hs'⟩
  refine ⟨_, rfl, Holds.atw ?_ hs'⟩
  clear hs'
  refine q_nil (q_then (q_plain ?_))
  refine c_cond_t rfl ?_
  refine ww ?_
  refine c_cons (s_store1 rfl rfl rfl (.tail .head) (by kernel_rfl) rfl (by simp) ?_)
  change Holds _ _ _ _ _ (ByO ob (.slice none 0 0) :: ErO eb c :: F) _
  refine ww ?_
  exact q_end (u' := .panicking (lrec c)) rfl rfl (fun w hs => ⟨⟨_, rfl⟩, rfl, hs.sb⟩)

theorem join_c (c l num n : Int) (vf : Value) (frs : List (List UInt8)) (hml : ∀ b, b ∈ frs → b.length ≤ 100000) (w0 w : World) (G : Im) (F : Hp) (hv : RowsV G vf frs) (hs : Sat w0 w G F) :
    Calls Try.prog 19 #[.agg #[I64 c, I64 l, I64 num], vf, I64 n] w fun e w' => ∃ G' u, e = .returned (.tuple #[u, I64 (joinS c l num frs n).2]) ∧ Im.le G G' ∧ SV G' [] u (joinS c l num frs n).1.length ((joinS c l num frs n).1.map B8) ∧ Sat w0 w' G' F := by
  refine f_enterD (vs := [_, _, _]) Try.func19 rfl Try.ntmps19 (by simp) hs ?_
  refine ww ?_
  refine c_cons (s_boxA [I64 c, I64 l, I64 num] rfl rfl rfl fun b1 => ?_)
  refine c_cons (s_alloc (.slice none 0 0) (by kernel_rfl) rfl rfl fun b2 => ?_)
  refine c_cons (s_alloc (I64 0) (by kernel_rfl) rfl rfl fun b3 => ?_)
  change Holds _ _ _ _ _ (ErO b3 0 :: ByO b2 (.slice none 0 0) :: (b1, _) :: F) _
  refine c_freeze (.tail (.tail .head)) fun G1 hG1 kS => ?_
  refine ww ?_
  refine c_cons (s_defer rfl rfl rfl rfl ?_)
  refine ww ?_
  refine c_cons (s_val (v_loadAgg (vs := [I64 c, I64 l, I64 num]) rfl (by kernel_rfl) (by kernel_rfl) rfl (fun j u hj => (Cel.allI kS hj))) rfl rfl rfl ?_)
  refine ww ?_
  refine c_cons (s_call (xs := [_, _, _]) rfl rfl rfl rfl rfl rfl (by kernel_rfl) (fun w hs => joined_c c l num n _ frs hml _ w _ _ (hv.mono hG1) hs) ?_)
  have herr := joinS_err c l num frs n
  generalize joinS c l num frs n = J at herr ⊢
  rintro e w' ⟨G2, hG2, hs', ⟨hne, rfl⟩ | ⟨hz, u, rfl, hu⟩⟩
  · refine a_panic ?_ hs'; clear hs'
    rw [herr hne]
    generalize J.2 = x
    repeat (first | refine x_then_panic ?_ | refine x_block_panic ?_)
    exact d_pan1 (by kernel_rfl) (fun w hs => catchJ_s b3 b2 x 0 _ _ w _ _ hs) (fun a e y w' ht ⟨h1, h2, h3⟩ => ⟨h1, h2, _, res_c2 ht rfl rfl rfl (by kernel_rfl) (by kernel_rfl) h3 (Cel.tail (Cel.head rfl)) (Cel.head rfl), G2, _, rfl, hG1.trans hG2, SV.nil _ _, h3.sb⟩)
  · refine a_ret ?_ hs'; clear hs'
    rw [hz]
    refine ww ?_
    refine c_cons (s_store1 rfl rfl rfl (.tail .head) (by kernel_rfl) hu.one (by simp) ?_)
    refine c_cons (s_store1 rfl rfl rfl (.tail .head) (by kernel_rfl) rfl (by simp) ?_)
    change Holds _ _ _ _ _ (ErO b3 0 :: ByO b2 u :: F) _
    refine ww ?_
    exact d_ret1 (by kernel_rfl) (fun w hs => catchJ_n b3 b2 _ w _ _ hs) (fun a e y w' ht ⟨h1, h2, h3⟩ => ⟨h1, h2, _, res_c2 ht rfl rfl rfl (by kernel_rfl) (by kernel_rfl) h3 (Cel.tail (Cel.head rfl)) (Cel.head rfl), G2, u, rfl, hG1.trans hG2, hu, h3.sb⟩)
end
end Go.Proofs.Ytldkldmjcacopaa
