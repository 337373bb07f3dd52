/- The walks of package journal: record. -/
import Derived.Test.YtkjneelekfdpfaaJrW1
import Derived.Test.YtkjneelekfdpfaaDskW5
namespace Go.Proofs.Ytkjneelekfdpfaa
open Go
set_option linter.unusedVariables false
set_option linter.unusedSimpArgs false
set_option maxHeartbeats 1600000
section
variable {w0 w : World} {G : Im} {H : Hp} {n : Nat} {ds : List Deferred} {env : Env} {P : Program}
variable {dst : Option Tmp} {ty : TypeId} {pos : String} {aft : Array Edge} {g : Option (Nat × Bool)}
theorem i64_or16 (a b : Nat) (ha : a < 140737488355328) (hb : b < 65536) : bits .or .i64 ((a * 65536 : Nat) : Int) (b : Int) = ((a * 65536 + b : Nat) : Int) := by
  have h1 : b ||| a * 65536 = a * 65536 + b := by
    rw [Nat.or_comm, show (65536 : Nat) = 2 ^ 16 from rfl, ← Nat.shiftLeft_eq, Nat.shiftLeft_add_eq_or_of_lt (by simpa using hb)]
  have h2 : a * 65536 ||| b = a * 65536 + b := by rw [Nat.or_comm, h1]
  show IntKind.i64.wrap ((BitVec.ofInt 64 ((a * 65536 : Nat) : Int) ||| BitVec.ofInt 64 (b : Int)).toNat : Int) = _
  rw [BitVec.toNat_or, ofInt_u64 _ (by omega), ofInt_u64 b (by omega), h2]
  exact IntWalk.i64_in _ ⟨by omega, by omega⟩
theorem v_or16 (a b : Nat) {x y : Operand} {t t' : TypeId} {p q : Int} (hx : ev env x = some (I64 p)) (hy : ev env y = some (I64 q)) (hp : p = (a : Int) * 65536) (hq : q = b) (ha : a < 140737488355328) (hb : b < 65536) :
    Val P env G H ⟨dst, .binOp .or t x y t', ty, pos, aft, g⟩ (I64 ((a * 65536 + b : Nat) : Int)) := fun a' n ds w0 w ht hs => by
  subst hp hq
  have h2 : (binOp .or t (I64 ((a : Int) * 65536)) (I64 (b : Int))).run P w = .ok (.int .i64 (bits .or .i64 ((a : Int) * 65536) (b : Int))) w := by
    simp [binOp, Op.intBits, bits]
  have h1 := i64_or16 a b ha hb
  rw [show ((a * 65536 : Nat) : Int) = (a : Int) * 65536 by omega] at h1
  simp only [execOp, eqGuard, ht.eval hx, ht.eval hy, h2, h1]
  simp [eqGuard, h2, h1]
end
theorem num3 {xs : List UInt8} {a b c : UInt8} (h0 : xs[0]? = some a) (h1 : xs[1]? = some b) (h2 : xs[2]? = some c) : num (xs.take 3) = (a.toNat * 256 + b.toNat) * 256 + c.toNat := by
  match xs, h0, h1, h2 with
  | x :: y :: z :: r, h0, h1, h2 =>
    cases h0; cases h1; cases h2
    simp [num]
theorem p16 : (2 : Int) ^ (16 : Int).toNat = 65536 := by decide
theorem p8 : (2 : Int) ^ (8 : Int).toNat = 256 := by decide
attribute [local irreducible] Code.wp wpList stepK Holds Val wpR Eff Eff0 Code.wpIn wpListIn stepI Exit.then Exit.inBlock bodyPost bodyPostM

theorem jrec_c (dp : Nat) (B : Hp) (D : Dk) (hr : DH dp D B) (hl : 6 ≤ D.now.length ∧ D.now.length ≤ 4160) (h64 : ∀ x ∈ D.now, x.length = 64) (hd : D.dead = false) (h : Nat) (hh : h ≤ 1) (at' en : Nat) (he : en ≤ jz D.now.length) (hat : at' < en) (w0 w : World) (G : Im) (F : Hp) (hs : Sat w0 w G (B ++ F)) :
    Calls Try.prog 39 #[Pt dp 0, I64 (h : Int), I64 (at' : Int), I64 (en : Int)] w fun e w' => ∃ G', Im.le G G' ∧ Sat w0 w' G' (B ++ F) ∧
      ((recS D.now (2 + h * jz D.now.length + at') (en - at') = none ∧ e = .panicked (jgone 4)) ∨ (∃ r k u, recS D.now (2 + h * jz D.now.length + at') (en - at') = some (r, k) ∧ e = .returned (.tuple #[u, I64 (k : Int)]) ∧ SV G' [] u r.length (r.map B8))) := by
  refine f_enter (vs := [_, _, _, _]) Try.func39 rfl Try.ntmps39 (by simp) hs ?_
  obtain ⟨z1, z2⟩ := jz_le hl.1
  obtain ⟨p, hp⟩ : ∃ p, p = 2 + h * jz D.now.length + at' := ⟨_, rfl⟩
  have hpe : p + (en - at') ≤ D.now.length := by
    rw [hp]
    rcases (show h = 0 ∨ h = 1 by omega) with e | e <;> rw [e] <;> omega
  have hpi : ∀ i : Nat, ((2 + h * jz D.now.length : Nat) : Int) + (at' : Int) + (i : Int) = ((p + i : Nat) : Int) := fun i => by rw [hp]; omega
  rw [← hp]
  obtain ⟨n, hn⟩ : ∃ n, n = num ((D.now.getD p []).take 3) := ⟨_, rfl⟩
  have hrec : recS D.now p (en - at') = if jk n ≤ en - at' then some ((((D.now.drop p).take (jk n)).flatten.drop 3).take n, jk n) else none := by unfold recS; rw [← hn]
  have hk1 := jk_pos n
  have h3n : 3 + n ≤ jk n * 64 := by unfold jk; omega
  have hfl : ∀ i, i ≤ en - at' → ((D.now.drop p).take i).flatten.length = i * 64 := fun i hi => by
    rw [flat_len _ (fun x hx => h64 x (List.mem_of_mem_drop (List.mem_of_mem_take hx))), List.length_take, List.length_drop]
    congr 1; omega
  refine ww ?_
  refine c_loop (α := Nat × Im × Value × Hp × Nat) (fun x => [(0, Pt dp 0), (1, I64 (h : Int)), (2, I64 (at' : Int)), (3, I64 (en : Int)), (10, x.2.2.1), (11, I64 (x.2.2.2.2 : Int)), (12, I64 (x.1 : Int))]) (fun x => x.2.1) (fun x => x.2.2.2.1 ++ (B ++ F)) (fun x => Im.le G x.2.1 ∧ x.1 ≤ x.2.2.2.2 ∧ x.2.2.2.2 ≤ en - at' ∧ OB x.2.2.1 (((D.now.drop p).take x.1).flatten) x.2.2.2.1 ∧ ((x.1 = 0 ∧ x.2.2.2.2 = 1) ∨ (1 ≤ x.1 ∧ x.2.2.2.2 = jk n))) (fun x => en - at' - x.1) (0, G, .slice none 0 0, [], 1) ⟨Im.le_refl _, by dsimp only; omega, by dsimp only; omega, by rw [List.take_zero]; exact Own.zero none _ _, .inl ⟨rfl, rfl⟩⟩ ?_ ?_
  · exact n_at ⟨rfl, rfl, rfl, rfl, rfl, rfl, rfl, trivial⟩ sbx
  rintro ⟨i, Gi, v, Bv, need⟩ ⟨hGi, hi, hne, hob, hcase⟩
  dsimp only at hGi hi hne hob hcase ⊢
  have hfi := hfl i (by omega)
  refine ww ?_
  refine c_cond_d rfl (fun c1 => ?_) (fun c1 => ?_)
  · -- then
    have hin : i < need := by omega
    have hpl : p + i < D.now.length := by omega
    obtain ⟨s, hs0⟩ : ∃ s, D.now[p + i]? = some s := ⟨_, List.getElem?_eq_getElem hpl⟩
    have hsl : s.length = 64 := h64 s (List.mem_of_getElem? hs0)
    have hsd : D.now.getD (p + i) [] = s := by rw [List.getD, hs0]; rfl
    have htk : (D.now.drop p).take (i + 1) = (D.now.drop p).take i ++ [s] := by rw [List.take_add_one, List.getElem?_drop, hs0]; rfl
    have hrd : readS D ((p + i : Nat) : Int) = (some s, 0) := by
      unfold readS
      rw [if_neg (by simp [hd]), if_pos (show hasS D ((p + i : Nat) : Int) from ⟨by omega, by omega⟩), Int.toNat_natCast, hsd]
    refine ww ?_
    rw [decide_eq_true (show (at' : Int) + (i : Int) < (en : Int) by omega)]
    refine c_cons (s_call (xs := [_, _]) rfl rfl rfl rfl rfl rfl (by kernel_rfl) (fun w hs => jmust_t 4 _ w _ _ hs) ?_)
    rintro e w' ⟨rfl, hs'⟩; refine a_ret ?_ hs'; clear hs'
    refine c_sub (B ++ (Bv ++ F)) sbx ?_
    refine ww ?_
    refine c_cons (s_call (xs := [_, _]) rfl rfl rfl rfl rfl rfl (by kernel_rfl) (fun w hs => jstart_c dp B D hr (by omega) h hh _ w _ _ hs) ?_)
    rintro e w' ⟨rfl, hs'⟩; refine a_ret ?_ hs'; clear hs'
    refine ww ?_
    rw [hpi i]
    refine c_cons (s_call (xs := [_, _]) rfl rfl rfl rfl rfl rfl (by kernel_rfl) (fun w hs => readH_c dp B D hr _ _ w _ _ hs) ?_)
    rw [hrd]
    rintro e w' ⟨G2, u2, rfl, hG2, hu2, hs'⟩; refine a_ret ?_ hs'; clear hs'
    change SV G2 [] u2 s.length (s.map B8) at hu2
    dsimp only
    refine ww ?_
    rw [decide_eq_true (by decide : (0 : Int) = 0)]
    refine c_cons (s_call (xs := [_, _]) rfl rfl rfl rfl rfl rfl (by kernel_rfl) (fun w hs => jmust_t 0 _ w _ _ hs) ?_)
    rintro e w' ⟨rfl, hs'⟩; refine a_ret ?_ hs'; clear hs'
    refine c_sub (Bv ++ (B ++ F)) sbx ?_
    refine ww ?_
    refine c_cons (s_append (e := 5) (z := B8 0) (sz := 1) (bs := 1) (by kernel_rfl) rfl rfl rfl rfl hob Chunk.head (hu2.mono (Im.le_refl _) (by simp)) rfl (by decide) (by simp) (B8_one s) (by omega) (by omega) fun v3 B3 hown3 => ?_)
    have e3 : ((D.now.drop p).take (i + 1)).flatten = ((D.now.drop p).take i).flatten ++ s := by rw [htk, List.flatten_append]; simp
    rw [← List.map_append, ← List.length_append, ← e3] at hown3
    refine ww ?_
    refine c_cond_d rfl (fun c2 => ?_) (fun c2 => ?_)
    · -- then
      have hi0 : i = 0 := by omega
      subst hi0
      have hneed : need = 1 := by omega
      subst hneed
      have hsn : n = num (s.take 3) := by rw [hn]; rw [Nat.add_zero] at hsd; rw [hsd]
      have e0 : ((D.now.drop p).take (0 + 1)).flatten = s := by rw [e3, List.take_zero]; rfl
      rw [e0] at hown3
      obtain ⟨a, ha⟩ : ∃ a, s[0]? = some a := ⟨_, List.getElem?_eq_getElem (by omega)⟩
      obtain ⟨b, hb⟩ : ∃ a, s[1]? = some a := ⟨_, List.getElem?_eq_getElem (by omega)⟩
      obtain ⟨c, hc⟩ : ∃ a, s[2]? = some a := ⟨_, List.getElem?_eq_getElem (by omega)⟩
      have hnum := num3 ha hb hc
      rw [← hsn] at hnum
      have hal := a.toNat_lt
      have hbl := b.toNat_lt
      have hcl := c.toNat_lt
      obtain ⟨hl3, hown3'⟩ := id hown3
      rcases hown3' with ⟨ad7, rfl, h0, rfl⟩ | ⟨bx, cx, sl, rfl, hb1, hb2, hb3, rfl⟩
      · omega
      have hcel : ∀ (j : Nat) (x : UInt8) (G : Im) (H : Hp), s[j]? = some x → Cel G ((bx, Cs (s.map B8 ++ sl) 5) :: H) bx (0 + (j : Int).toNat) (B8 x) := fun j x G H hj => Cel.head (by
        have hjl := (List.getElem?_eq_some_iff.1 hj).1
        rw [Nat.zero_add, Int.toNat_natCast, List.getElem?_append_left (by rw [List.length_map]; exact hjl), List.getElem?_map, hj]; rfl)
      refine ww ?_
      refine r_startS [(bx, Cs (s.map B8 ++ sl) 5)] [] (by kernel_rfl) (fun w h => h.sb) ?_
      refine r_tk 0 rfl rfl (v_move rfl) (fun _ h => (h.sb)) ?_
      refine r_tk 1 rfl rfl (v_index1 rfl rfl (by kernel_rfl) (by omega)) (fun _ h => (h.sb)) ?_
      refine r_tk 2 rfl rfl (v_load rfl (hcel 0 a _ _ ha) (by kernel_rfl)) (fun _ h => (h.sb)) ?_
      refine r_tk 3 rfl rfl (v_u8int rfl (by kernel_rfl) (by kernel_rfl)) (fun _ h => (h.sb)) ?_
      refine r_tk 4 rfl rfl (v_shl rfl rfl (by omega) (by rw [p16]; omega)) (fun _ h => (h.sb)) ?_
      refine r_tk 5 rfl rfl (v_move rfl) (fun _ h => (h.sb)) ?_
      refine r_tk 6 rfl rfl (v_index1 rfl rfl (by kernel_rfl) (by omega)) (fun _ h => (h.sb)) ?_
      refine r_tk 7 rfl rfl (v_load rfl (hcel 1 b _ _ hb) (by kernel_rfl)) (fun _ h => (h.sb)) ?_
      refine r_tk 8 rfl rfl (v_u8int rfl (by kernel_rfl) (by kernel_rfl)) (fun _ h => (h.sb)) ?_
      refine r_tk 9 rfl rfl (v_shl rfl rfl (by omega) (by rw [p8]; omega)) (fun _ h => (h.sb)) ?_
      refine r_tk 10 rfl rfl (v_or16 a.toNat (b.toNat * 256) rfl rfl (by rw [p16]) (by rw [p8]; omega) (by omega) (by omega)) (fun _ h => (h.sb)) ?_
      refine r_tk 11 rfl rfl (v_move rfl) (fun _ h => (h.sb)) ?_
      refine r_tk 12 rfl rfl (v_index1 rfl rfl (by kernel_rfl) (by omega)) (fun _ h => (h.sb)) ?_
      refine r_tk 13 rfl rfl (v_load rfl (hcel 2 c _ _ hc) (by kernel_rfl)) (fun _ h => (h.sb)) ?_
      refine r_tk 14 rfl rfl (v_u8int rfl (by kernel_rfl) (by kernel_rfl)) (fun _ h => (h.sb)) ?_
      refine r_tk 15 rfl rfl (v_or256 (a.toNat * 256 + b.toNat) c.toNat rfl rfl (by omega) rfl (by omega) (by omega)) (fun _ h => (h.sb)) ?_
      rw [← hnum]
      refine r_one 16 (by kernel_rfl) rfl ?_
      refine s_call (xs := [_]) rfl rfl rfl rfl rfl rfl (by kernel_rfl) (fun w hs => jsectors_c n (by omega) _ w _ _ hs) ?_
      rintro e w' ⟨rfl, hs'⟩; refine a_ret ?_ hs'; clear hs'
      refine r_next (fun w h => (h.sb)) ?_
      refine r_tk 17 rfl rfl (v_assign rfl) (fun _ h => (h.sb)) ?_
      refine r_done (by kernel_rfl) ?_
      refine ww ?_
      by_cases ck : jk n ≤ en - at'
      rotate_left
      · rw [decide_eq_false (show ¬ (jk n : Int) ≤ (en : Int) - (at' : Int) by omega)]
        refine c_cons (s_call (xs := [_, _]) rfl rfl rfl rfl rfl rfl (by kernel_rfl) (fun w hs => jmust_f 4 _ w _ _ hs) ?_)
        rintro e w' ⟨rfl, hs'⟩
        refine a_panic ?_ hs'; clear hs'
        repeat (first | refine x_then_panic ?_ | refine x_block_panic ?_)
        exact f_panic (fun w hs => ⟨G2, hGi.trans hG2, hs.sb, .inl ⟨by rw [hrec, if_neg ck], rfl⟩⟩)
      rw [decide_eq_true (show (jk n : Int) ≤ (en : Int) - (at' : Int) by omega)]
      refine c_cons (s_call (xs := [_, _]) rfl rfl rfl rfl rfl rfl (by kernel_rfl) (fun w hs => jmust_t 4 _ w _ _ hs) ?_)
      rintro e w' ⟨rfl, hs'⟩; refine a_ret ?_ hs'; clear hs'
      refine ww ?_
      exact n_next (x := (0, Gi, v, Bv, 1)) (0 + 1, G2, Sl bx 0 s.length cx, [(bx, Cs (s.map B8 ++ sl) 5)], jk n) ⟨hGi.trans hG2, by dsimp only; omega, ck, by dsimp only; rw [e0]; exact hown3, .inr ⟨by dsimp only; omega, rfl⟩⟩ (by dsimp only; omega) ⟨rfl, rfl, rfl, rfl, rfl, rfl, rfl, trivial⟩ rfl sbx
    refine ww ?_
    exact n_next (x := (i, Gi, v, Bv, need)) (i + 1, G2, v3, B3, need) ⟨hGi.trans hG2, by dsimp only; omega, hne, hown3, .inr ⟨by dsimp only; omega, by dsimp only; omega⟩⟩ (by dsimp only; omega) ⟨rfl, rfl, rfl, rfl, rfl, rfl, rfl, trivial⟩ rfl sbx
  have hneed : need = jk n ∧ i = jk n := by omega
  obtain ⟨rfl, rfl⟩ := hneed
  rw [if_pos hne] at hrec
  obtain ⟨xs, hxs⟩ : ∃ xs, xs = ((D.now.drop p).take (jk n)).flatten := ⟨_, rfl⟩
  rw [← hxs] at hob hfi hrec
  obtain ⟨s, hs0⟩ : ∃ s, D.now[p]? = some s := ⟨_, List.getElem?_eq_getElem (by omega)⟩
  have hsl : s.length = 64 := h64 s (List.mem_of_getElem? hs0)
  have hx3 : xs.take 3 = (D.now.getD p []).take 3 := by
    have e1 : (D.now.drop p).take (jk n) = s :: (D.now.drop (p + 1)).take (jk n - 1) := by
      rw [show jk n = (jk n - 1) + 1 by omega, List.drop_eq_getElem_cons (show p < D.now.length by omega), List.take_succ_cons]
      congr 1
      have := (List.getElem?_eq_some_iff.1 hs0).2
      exact this
    rw [hxs, e1, List.flatten_cons, List.take_append_of_le_length (by omega), List.getD, hs0]; rfl
  obtain ⟨a, ha⟩ : ∃ a, xs[0]? = some a := ⟨_, List.getElem?_eq_getElem (by omega)⟩
  obtain ⟨b, hb⟩ : ∃ a, xs[1]? = some a := ⟨_, List.getElem?_eq_getElem (by omega)⟩
  obtain ⟨c, hc⟩ : ∃ a, xs[2]? = some a := ⟨_, List.getElem?_eq_getElem (by omega)⟩
  have hnum := num3 ha hb hc
  rw [hx3, ← hn] at hnum
  have hal := a.toNat_lt
  have hbl := b.toNat_lt
  have hcl := c.toNat_lt
  refine c_freezeO hob Chunk.head fun G4 hG4 hsv4 => ?_
  obtain ⟨_, cx, e4, hq1, hq2, hq3⟩ := id hsv4
  subst e4
  rcases hq3 with ⟨h0, _⟩ | ⟨bx, ox, rfl, hcx⟩
  · have := congrArg List.length h0; simp at this; subst this; simp at hfi; omega
  have hcel : ∀ (j : Nat) (x : UInt8) (H : Hp), xs[j]? = some x → Cel G4 H bx (ox + (j : Int).toNat) (B8 x) := fun j x H hj => by
    rw [Int.toNat_natCast]
    exact (hcx j (B8 x) (by rw [List.getElem?_map, hj]; rfl)).mono (Im.le_refl _) (by simp)
  refine ww ?_
  refine r_startS [] [] (by kernel_rfl) (fun w h => h.none) ?_
  refine r_tk 0 rfl rfl (v_move rfl) (fun _ h => h.none) ?_
  refine r_tk 1 rfl rfl (v_index1 rfl rfl (by kernel_rfl) (by omega)) (fun _ h => h.none) ?_
  refine r_tk 2 rfl rfl (v_load rfl (hcel 0 a _ ha) (by kernel_rfl)) (fun _ h => h.none) ?_
  refine r_tk 3 rfl rfl (v_u8int rfl (by kernel_rfl) (by kernel_rfl)) (fun _ h => h.none) ?_
  refine r_tk 4 rfl rfl (v_shl rfl rfl (by omega) (by rw [p16]; omega)) (fun _ h => h.none) ?_
  refine r_tk 5 rfl rfl (v_move rfl) (fun _ h => h.none) ?_
  refine r_tk 6 rfl rfl (v_index1 rfl rfl (by kernel_rfl) (by omega)) (fun _ h => h.none) ?_
  refine r_tk 7 rfl rfl (v_load rfl (hcel 1 b _ hb) (by kernel_rfl)) (fun _ h => h.none) ?_
  refine r_tk 8 rfl rfl (v_u8int rfl (by kernel_rfl) (by kernel_rfl)) (fun _ h => h.none) ?_
  refine r_tk 9 rfl rfl (v_shl rfl rfl (by omega) (by rw [p8]; omega)) (fun _ h => h.none) ?_
  refine r_tk 10 rfl rfl (v_or16 a.toNat (b.toNat * 256) rfl rfl (by rw [p16]) (by rw [p8]; omega) (by omega) (by omega)) (fun _ h => h.none) ?_
  refine r_tk 11 rfl rfl (v_move rfl) (fun _ h => h.none) ?_
  refine r_tk 12 rfl rfl (v_index1 rfl rfl (by kernel_rfl) (by omega)) (fun _ h => h.none) ?_
  refine r_tk 13 rfl rfl (v_load rfl (hcel 2 c _ hc) (by kernel_rfl)) (fun _ h => h.none) ?_
  refine r_tk 14 rfl rfl (v_u8int rfl (by kernel_rfl) (by kernel_rfl)) (fun _ h => h.none) ?_
  refine r_tk 15 rfl rfl (v_or256 (a.toNat * 256 + b.toNat) c.toNat rfl rfl (by omega) rfl (by omega) (by omega)) (fun _ h => h.none) ?_
  rw [← hnum]
  refine r_tk 16 rfl rfl (v_assign rfl) (fun _ h => h.none) ?_
  refine r_done (by kernel_rfl) ?_
  have hcap : xs.length ≤ cx := hq1
  have hmid : SV G4 [] (slMid (some ⟨bx, ox, none⟩) cx 3 (3 + n) 1) ((xs.drop 3).take n).length (((xs.drop 3).take n).map B8) := by
    have h := hsv4.mid (s := 1) (show 3 ≤ 3 + n by omega) (show 3 + n ≤ xs.length by omega)
    simp only [Nat.mul_one] at h
    rw [show 3 + n - 3 = n by omega] at h
    rw [show ((xs.drop 3).take n).length = n by rw [List.length_take, List.length_drop]; omega, List.map_take, List.map_drop]
    exact h
  refine ww ?_
  refine c_cons (s_val (v_slMid 3 (3 + n) 1 rfl rfl (by rw [Int.natCast_add]; rfl) (by kernel_rfl) (by omega) (by omega)) rfl rfl rfl ?_)
  refine c_cons (s_call (xs := [_]) rfl rfl rfl rfl rfl rfl (by kernel_rfl) (fun w hs => clone_c _ ((xs.drop 3).take n) _ w _ _ hmid (by rw [List.length_take, List.length_drop]; omega) hs) ?_)
  rintro e w' ⟨G5, u5, rfl, hG5, hu5, hs'⟩; refine a_ret ?_ hs'; clear hs'
  refine ww ?_
  exact f_ret2 rfl rfl rfl (fun w hs => ⟨G5, hGi.trans (hG4.trans hG5), hs, .inr ⟨_, _, u5, hrec, rfl, hu5⟩⟩)
end Go.Proofs.Ytkjneelekfdpfaa
