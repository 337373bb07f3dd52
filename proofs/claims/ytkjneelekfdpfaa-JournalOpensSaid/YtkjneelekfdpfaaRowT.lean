/- Rows of bytes in memory: looked at, owned; pinstripelaw2's Rows and Small. -/
import Derived.Test.YtkjneelekfdpfaaRecs
import Derived.Test.YtkjneelekfdpfaaRecV
import Derived.Test.YtkjneelekfdpfaaSub
import Derived.Test.YtkjneelekfdpfaaOpen2
import Derived.Test.YtkjneelekfdpfaaBytes
import Derived.Test.YtkjneelekfdpfaaOps8
namespace Go.Proofs.Ytkjneelekfdpfaa
open Go
set_option linter.unusedVariables false
set_option linter.unusedSimpArgs false
set_option maxHeartbeats 1600000
/-- The values xs are the rows rs, which nobody writes. -/
def Items (G : Im) (xs : List Value) (rs : List (List UInt8)) : Prop := xs.length = rs.length ∧ ∀ (j : Nat) x r, xs[j]? = some x → rs[j]? = some r → SV G [] x r.length (r.map B8)
theorem Items.mono {G G' : Im} {xs : List Value} {rs : List (List UInt8)} (h : Items G xs rs) (hG : Im.le G G') : Items G' xs rs := ⟨h.1, fun j x r hx hr => (h.2 j x r hx hr).mono hG (fun _ hp => hp)⟩
theorem Items.at {G : Im} {xs : List Value} {rs : List (List UInt8)} (h : Items G xs rs) (j : Nat) (hj : j < xs.length) : ∃ hr : j < rs.length, SV G [] xs[j] (rs[j]).length ((rs[j]).map B8) :=
  ⟨by rw [← h.1]; exact hj, h.2 j _ _ (by simp [hj]) (by simp [← h.1, hj])⟩
/-- The rows of an argument: who has them, what they hold. -/
def RowsV (G : Im) (v : Value) (rs : List (List UInt8)) : Prop := ∃ vs, SV G [] v vs.length vs ∧ Items G vs rs
theorem RowsV.mono {G G' : Im} {v : Value} {rs : List (List UInt8)} (h : RowsV G v rs) (hG : Im.le G G') : RowsV G' v rs := let ⟨vs, h1, h2⟩ := h; ⟨vs, h1.mono hG (fun _ hp => hp), h2.mono hG⟩
def Im.del (G : Im) (b : Nat) : Im := fun k => if k = b then none else G k
theorem Im.le_del {G G' : Im} (h : Im.le G G') {b : Nat} (hb : G b = none) : Im.le G (Im.del G' b) := fun k o hk => by
  unfold Im.del
  by_cases e : k = b
  · subst e; rw [hb] at hk; cases hk
  · rw [if_neg e]; exact h k o hk
/-- What was given up for a while is owned again. -/
theorem Sat.thaw {w0 w : World} {G : Im} {H : Hp} {b : Nat} {o : Obj} (h : Sat w0 w G H) (hb : G b = some o) : Sat w0 w (Im.del G b) ((b, o) :: H) := by
  refine ⟨h.os, h.tape, h.output, h.size, fun k q hk => ?_, fun p hp => ?_, fun p hp => ?_, ?_⟩
  · unfold Im.del at hk
    by_cases e : k = b
    · rw [if_pos e] at hk; cases hk
    · rw [if_neg e] at hk; exact h.imm k q hk
  · rcases List.mem_cons.1 hp with rfl | hp
    · exact h.imm b o hb
    · exact h.own p hp
  · unfold Im.del
    rcases List.mem_cons.1 hp with rfl | hp
    · exact if_pos rfl
    · by_cases e : p.1 = b
      · exact if_pos e
      · rw [if_neg e]; exact h.sep p hp
  · simp only [List.map_cons, List.nodup_cons]
    refine ⟨fun hm => ?_, h.nodup⟩
    obtain ⟨p, hp, e⟩ := List.mem_map.1 hm
    have := h.sep p hp
    rw [e, hb] at this; cases this
/-- Rows in memory that is owned. -/
def RO (G : Im) (v : Value) (rs : List (List UInt8)) (B : Hp) : Prop := ∃ vs, Own v vs.length vs 31 1 B ∧ Items G vs rs
theorem RO.up {G G' : Im} {v : Value} {rs : List (List UInt8)} {B : Hp} (h : RO G v rs B) (hG : Im.le G G') : RO G' v rs B := let ⟨vs, h1, h2⟩ := h; ⟨vs, h1, h2.mono hG⟩
theorem RO.zero (G : Im) (ad : Option Addr) : RO G (.slice ad 0 0) [] [] := ⟨[], Own.zero ad _ _, rfl, fun j x r h => by simp at h⟩
theorem RO.form {G : Im} {v : Value} {rs : List (List UInt8)} {B : Hp} (h : RO G v rs B) : ∃ ad c, v = .slice ad rs.length c := by
  obtain ⟨vs, h1, h2⟩ := h
  rw [← h2.1]; exact h1.form
theorem Items.snoc {G : Im} {vs : List Value} {rs : List (List UInt8)} (h : Items G vs rs) {u : Value} {b : List UInt8} (hu : SV G [] u b.length (b.map B8)) : Items G (vs ++ [u]) (rs ++ [b]) := by
  refine ⟨by simp [h.1], fun j x r hx hr => ?_⟩
  by_cases hj : j < vs.length
  · rw [List.getElem?_append_left hj] at hx
    rw [List.getElem?_append_left (by rw [← h.1]; exact hj)] at hr
    exact h.2 j x r hx hr
  · have hjl : j < (vs ++ [u]).length := (List.getElem?_eq_some_iff.1 hx).1
    have hje : j = vs.length := by simp at hjl; omega
    subst hje
    rw [List.getElem?_append_right (Nat.le_refl _), Nat.sub_self] at hx
    rw [h.1, List.getElem?_append_right (Nat.le_refl _), Nat.sub_self] at hr
    cases hx
    cases hr
    exact hu
theorem RO.freeze {w0 : World} {n : Nat} {ds : List Deferred} {env : Env} {K : Act → World → Prop} {G : Im} {v : Value} {rs : List (List UInt8)} {B H H1 : Hp} (h : RO G v rs B) (hch : Chunk B H H1)
    (k : ∀ G', Im.le G G' → RowsV G' v rs → Holds n ds w0 env G' H1 K) : Holds n ds w0 env G H K := by
  obtain ⟨vs, h1, h2⟩ := h
  exact c_freezeO h1 hch fun G' hG hsv => k G' hG ⟨vs, hsv, h2.mono hG⟩
theorem SV.one {G : Im} {v : Value} {k : Nat} {L : List Value} (h : SV G [] v k L) : v.oneCell' = true := by
  obtain ⟨ad, c, rfl⟩ := h.form
  rfl
theorem Items.one {G : Im} {vs : List Value} {rs : List (List UInt8)} (h : Items G vs rs) : ∀ x ∈ vs, x.oneCell' = true := fun x hm => by
  obtain ⟨j, hj, rfl⟩ := List.getElem_of_mem hm
  obtain ⟨hr, hsv⟩ := h.at j hj
  obtain ⟨ad, c, e⟩ := hsv.form
  rw [e]; rfl
theorem RowsV.nil (G : Im) : RowsV G (.slice none 0 0) [] := ⟨[], SV.nil _ _, rfl, fun j x r h => by simp at h⟩
/-- A row that is loaded. -/
theorem RowsV.row {G : Im} {v : Value} {rs : List (List UInt8)} (h : RowsV G v rs) {k : Nat} {r : List UInt8} (hr : rs[k]? = some r) : ∃ b o c u, v = .slice (some ⟨b, o, none⟩) rs.length c ∧ (∀ (G' : Im) (H : Hp), Im.le G G' → Cel G' H b (o + (k : Int).toNat) u) ∧ SV G [] u r.length (r.map B8) := by
  obtain ⟨vs, hsv, hit⟩ := h
  have hlt := (List.getElem?_eq_some_iff.1 hr).1
  obtain ⟨ad, c, rfl, h1, h2, h3⟩ := hsv
  have hkl : k < vs.length := by rw [hit.1]; exact hlt
  rcases h3 with ⟨h0, _⟩ | ⟨b, o, rfl, hc⟩
  · rw [h0] at hkl; simp at hkl
  refine ⟨b, o, c, vs[k], by rw [hit.1], fun G' H hG => ?_, ?_⟩
  · rw [Int.toNat_natCast]
    exact (hc k _ (List.getElem?_eq_getElem hkl)).mono hG (by simp)
  · exact hit.2 k _ r (List.getElem?_eq_getElem hkl) hr
theorem RowsV.len {G : Im} {v : Value} {rs : List (List UInt8)} (h : RowsV G v rs) : ∃ ad c, v = .slice ad rs.length c := by
  obtain ⟨vs, hsv, hit⟩ := h
  obtain ⟨ad, c, rfl⟩ := hsv.form
  exact ⟨ad, c, by rw [hit.1]⟩
theorem Items.put {G : Im} {vs : List Value} {rs : List (List UInt8)} (h : Items G vs rs) {k : Nat} {u : Value} {b : List UInt8} (hu : SV G [] u b.length (b.map B8)) : Items G (vs.set k u) (rs.set k b) := by
  refine ⟨by simp [h.1], fun j v r hv hr => ?_⟩
  by_cases e : j = k
  · subst e
    have hjl := (List.getElem?_eq_some_iff.1 hv).1
    have hjr := (List.getElem?_eq_some_iff.1 hr).1
    rw [List.getElem?_set_self (by simpa using hjl)] at hv
    rw [List.getElem?_set_self (by simpa using hjr)] at hr
    cases hv; cases hr
    exact hu
  · rw [List.getElem?_set_ne (fun h => e h.symm)] at hv hr
    exact h.2 j v r hv hr
/-- Rows that lie in a block of one's own. -/
abbrev RwS (b : Nat) (vs sl : List Value) : Nat × Obj := (b, Cs (vs ++ sl) 31)
theorem RwS.sv {G : Im} {b : Nat} {vs sl : List Value} {c : Nat} {rs : List (List UInt8)} (hb : G b = some (Cs (vs ++ sl) 31)) (hc : vs.length ≤ c ∧ c ≤ maxLen) (hit : Items G vs rs) : RowsV G (Sl b 0 vs.length c) rs :=
  ⟨vs, ⟨_, c, rfl, hc.1, hc.2, .inr ⟨b, 0, rfl, fun j u hj => ⟨_, _, _, .of_imm hb, by
    simp only [List.getElem?_toArray, Nat.zero_add]
    rw [List.getElem?_append_left (List.getElem?_eq_some_iff.1 hj).1]; exact hj⟩⟩⟩, hit⟩
attribute [local irreducible] Code.wp wpList stepK Holds Val wpR Eff Eff0 Code.wpIn wpListIn stepI Exit.then Exit.inBlock bodyPost bodyPostM

theorem small_c (v : Value) (rs : List (List UInt8)) (most : Int) (w0 w : World) (G : Im) (F : Hp) (hv : RowsV G v rs) (hs : Sat w0 w G F) :
    Calls Try.prog 22 #[v, I64 most] w fun e w' => e = .returned (.bool (decide (rs.length ≤ 40 ∧ ∀ r ∈ rs, (r.length : Int) ≤ most))) ∧ Sat w0 w' G F := by
  obtain ⟨vs, hv, hx⟩ := hv
  have hlen := hx.1
  obtain ⟨ad, cap, rfl, h1, h2, h3⟩ := hv
  unfold maxLen at h2
  refine f_enter (vs := [_, _]) Try.func22 rfl Try.ntmps22 (by simp) hs ?_
  refine ww ?_
  refine c_cond_d rfl (fun c1 => ?_) (fun c1 => ?_)
  · refine ww ?_
    refine f_ret1 rfl rfl (fun w hs => ⟨?_, hs⟩)
    rw [decide_eq_false (by omega)]
  refine ww ?_
  refine c_loop (α := Nat) (fun k => [(5, I64 k), (0, .slice ad vs.length cap), (1, I64 most)]) (fun _ => G) (fun _ => F) (fun k => k ≤ vs.length ∧ ∀ r ∈ rs.take k, (r.length : Int) ≤ most) (fun k => vs.length - k) 0 ⟨Nat.zero_le _, by simp⟩ ?_ ?_
  · exact l_at ⟨rfl, rfl, rfl, trivial⟩ (Split.refl _)
  · rintro k ⟨hk, hall⟩
    refine ww ?_
    refine c_cond_d rfl (fun hlt => ?_) (fun hge => ?_)
    · have hkv : k < vs.length := by omega
      obtain ⟨hkr, hsv⟩ := hx.at k hkv
      rcases h3 with ⟨hx0, _⟩ | ⟨b, o, rfl, hc⟩
      · subst hx0; simp at hkv
      have e1 := (hc k vs[k] (by simp [hkv])).mono (H' := F) (Im.le_refl G) (by simp)
      obtain ⟨adr, capr, hvk, _⟩ := hsv
      refine ww ?_
      refine c_cons (s_val (v_index1 rfl rfl (by kernel_rfl) (by omega)) rfl rfl rfl ?_)
      refine c_cons (s_val (v_load rfl (by rw [hvk] at e1; simpa using e1) (by kernel_rfl)) rfl rfl rfl ?_)
      refine ww ?_
      refine c_cond_d rfl (fun hgt => ?_) (fun hle => ?_)
      · refine ww ?_
        refine f_ret1 rfl rfl (fun w hs => ⟨?_, hs⟩)
        rw [decide_eq_false (fun h => by have := h.2 _ (List.getElem_mem hkr); omega)]
      · refine ww ?_
        refine l_next (G' := fun _ => G) (k + 1) ⟨by omega, ?_⟩ (by omega) ⟨rfl, rfl, rfl, trivial⟩ rfl (Split.refl _)
        intro r hr
        rw [List.take_succ_eq_append_getElem hkr, List.mem_append] at hr
        rcases hr with hr | hr
        · exact hall r hr
        · rw [List.mem_singleton.1 hr]; omega
    · refine ww ?_
      refine f_ret1 rfl rfl (fun w hs => ⟨?_, hs⟩)
      have e : k = rs.length := by omega
      subst e
      rw [List.take_length] at hall
      rw [decide_eq_true ⟨by omega, hall⟩]

theorem rowsD_c (va vb : Value) (xs ys : List (List UInt8)) (w0 w : World) (G : Im) (F : Hp) (ha : RowsV G va xs) (hb : RowsV G vb ys) (hs : Sat w0 w G F) :
    Calls Try.prog 15 #[va, vb] w fun e w' => e = .returned (.bool (decide (xs = ys))) ∧ Sat w0 w' G F := by
  obtain ⟨us, hu, hui⟩ := ha
  obtain ⟨vs, hv, hvi⟩ := hb
  obtain ⟨ad1, c1, rfl⟩ := hu.form
  obtain ⟨ad2, c2, rfl⟩ := hv.form
  have hul := hui.1
  have hvl := hvi.1
  rw [hul] at hu ⊢
  rw [hvl] at hv ⊢
  have hcapu : xs.length ≤ c1 ∧ c1 ≤ maxLen := by
    obtain ⟨_, _, e, h1, h2, _⟩ := hu
    cases e; exact ⟨h1, h2⟩
  unfold maxLen at hcapu
  refine f_enter (vs := [_, _]) Try.func15 rfl Try.ntmps15 (by simp) hs ?_
  refine ww ?_
  refine c_cond_d rfl (fun hne => ?_) (fun hlen => ?_)
  · refine ww ?_
    exact f_ret1 rfl rfl (fun w hs => ⟨by rw [decide_eq_false (fun e => hne (by rw [e]))], hs⟩)
  have hxy : xs.length = ys.length := by omega
  refine ww ?_
  refine c_loop (α := Nat) (fun i => [(0, .slice ad1 xs.length c1), (1, .slice ad2 ys.length c2), (5, I64 i)]) (fun _ => G) (fun _ => F) (fun i => i ≤ xs.length ∧ xs.take i = ys.take i) (fun i => xs.length - i) 0 ⟨Nat.zero_le _, by simp⟩ ?_ ?_
  · exact n_at ⟨rfl, rfl, rfl, trivial⟩ sbx
  rintro i ⟨hi, htk⟩
  refine ww ?_
  refine c_cond_d rfl (fun c9 => ?_) (fun c9 => ?_)
  · -- then
    have hil : i < xs.length := by omega
    have hjl : i < ys.length := by omega
    obtain ⟨_, hi1⟩ := hui.at i (by omega)
    obtain ⟨_, hi2⟩ := hvi.at i (by omega)
    obtain ⟨x, hx⟩ : ∃ x, x = xs[i] := ⟨_, rfl⟩
    obtain ⟨y, hy⟩ : ∃ y, y = ys[i] := ⟨_, rfl⟩
    rw [← hx] at hi1
    rw [← hy] at hi2
    have htx : xs.take (i + 1) = xs.take i ++ [x] := by rw [List.take_succ_eq_append_getElem hil, ← hx]
    have hty : ys.take (i + 1) = ys.take i ++ [y] := by rw [List.take_succ_eq_append_getElem hjl, ← hy]
    obtain ⟨p, hp⟩ : ∃ p, p = us[i]'(by omega) := ⟨_, rfl⟩
    obtain ⟨q, hq⟩ : ∃ q, q = vs[i]'(by omega) := ⟨_, rfl⟩
    rw [← hp] at hi1
    rw [← hq] at hi2
    obtain ⟨b1, o1, rfl, h1⟩ : ∃ b o, ad1 = some ⟨b, o, none⟩ ∧ ∀ H : Hp, Cel G H b (o + (i : Int).toNat) p := by
      obtain ⟨_, _, e, _, _, h3⟩ := hu
      cases e
      rcases h3 with ⟨h0, _⟩ | ⟨b, o, rfl, hc⟩
      · have h00 : us.length = 0 := by rw [h0]; rfl
        omega
      · exact ⟨b, o, rfl, fun H => by rw [Int.toNat_natCast]; exact (hc i p (by rw [hp]; exact List.getElem?_eq_getElem _)).mono (Im.le_refl _) (by simp)⟩
    obtain ⟨b2, o2, rfl, h2⟩ : ∃ b o, ad2 = some ⟨b, o, none⟩ ∧ ∀ H : Hp, Cel G H b (o + (i : Int).toNat) q := by
      obtain ⟨_, _, e, _, _, h3⟩ := hv
      cases e
      rcases h3 with ⟨h0, _⟩ | ⟨b, o, rfl, hc⟩
      · have h00 : vs.length = 0 := by rw [h0]; rfl
        omega
      · exact ⟨b, o, rfl, fun H => by rw [Int.toNat_natCast]; exact (hc i q (by rw [hq]; exact List.getElem?_eq_getElem _)).mono (Im.le_refl _) (by simp)⟩
    refine ww ?_
    refine r_startS [] [] (by kernel_rfl) (fun w h => h.none) ?_
    refine r_tk 0 rfl rfl (v_move rfl) (fun _ h => h.none) ?_
    refine r_tk 1 rfl rfl (v_move rfl) (fun _ h => h.none) ?_
    refine r_tk 2 rfl rfl (v_index1 rfl rfl (by kernel_rfl) (by omega)) (fun _ h => h.none) ?_
    refine r_tk 3 rfl rfl (v_load rfl (h1 _) (by kernel_rfl)) (fun _ h => h.none) ?_
    refine r_tk 4 rfl rfl (v_move rfl) (fun _ h => h.none) ?_
    refine r_tk 5 rfl rfl (v_move rfl) (fun _ h => h.none) ?_
    refine r_tk 6 rfl rfl (v_index1 rfl rfl (by kernel_rfl) (by omega)) (fun _ h => h.none) ?_
    refine r_tk 7 rfl rfl (v_load rfl (h2 _) (by kernel_rfl)) (fun _ h => h.none) ?_
    refine r_one 8 (by kernel_rfl) rfl ?_
    refine s_call (xs := [_, _]) rfl rfl rfl rfl rfl rfl (by kernel_rfl) (fun w hs => same_c _ _ x y _ w _ _ (hi1.mono (Im.le_refl _) (by simp)) (hi2.mono (Im.le_refl _) (by simp)) hs) ?_
    rintro e w' ⟨rfl, hs'⟩; refine a_ret ?_ hs'; clear hs'
    refine r_next (fun w h => h.none) ?_
    refine r_tk 9 rfl rfl (v_not rfl) (fun _ h => h.none) ?_
    refine r_done (by kernel_rfl) ?_
    refine ww ?_
    refine c_cond_nd rfl (fun c8 => ?_) (fun c8 => ?_)
    · refine ww ?_
      exact f_ret1 rfl rfl (fun w hs => ⟨by rw [decide_eq_false (fun e => c8 (by rw [hx, hy]; simp only [e]))], hs⟩)
    refine ww ?_
    exact n_next (x := i) (i + 1) ⟨hil, by rw [htx, hty, htk, c8]⟩ (by omega) ⟨rfl, rfl, rfl, trivial⟩ rfl sbx
  have e : i = xs.length := by omega
  subst e
  rw [List.take_length, hxy, List.take_length] at htk
  refine ww ?_
  exact f_ret1 rfl rfl (fun w hs => ⟨by rw [decide_eq_true htk], hs⟩)
end Go.Proofs.Ytkjneelekfdpfaa
