/- The reference's pen, whatever is written. The reference's pens that may have failed: pointers, deltas, stripes. Replies of package note: what a pen has of them (plain), and the walks of EncodeReply, the program's and the reference's. Plain: what bytes are read as (requests): in steps, each of which keeps what went wrong first. The walks of package delta: a delta read. The eye's texts. The walks of package note: what bytes are read as (Decode). The walks of package note: Decode. -/
import Derived.Test.YtobhlbhklblncaaK3
import Derived.Test.YtobhlbhklblncaaK2
import Derived.Test.YtobhlbhklblncaaK5
import Derived.Test.YtobhlbhklblncaaK4
namespace Go.Proofs.Ytobhlbhklblncaa
section
open Go
set_option linter.unusedVariables false
set_option linter.unusedSimpArgs false
set_option maxHeartbeats 3200000
section
variable {w0 w : World} {G : Im} {H : Hp} {env : Env} {P : Program} {dst : Option Tmp} {ty : TypeId} {pos : String} {aft : Array Edge} {g : Option (Nat × Bool)}
theorem v_andG {x y : Operand} {t t' : TypeId} {p q : Int} (hx : ev env x = some (I64 p)) (hy : ev env y = some (I64 q)) :
    Val P env G H ⟨dst, .binOp .and t x y t', ty, pos, aft, g⟩ (I64 (bits .and .i64 p q)) := fun a n ds w0 w ht hs => by
  have h2 : (binOp .and t (I64 p) (I64 q)).run P w = .ok (.int .i64 (bits .and .i64 p q)) w := by
    simp [binOp, Op.intBits, bits]
  simp only [execOp, eqGuard, ht.eval hx, ht.eval hy, h2]
  simp [eqGuard, h2]
theorem and65535 (a : Nat) (ha : a ≤ 65535) : bits .and .i64 (a : Int) 65535 = (a : Int) := by
  have h1 : a &&& 65535 = a := by
    have := Nat.and_two_pow_sub_one_eq_mod a 16
    rw [show (2 : Nat) ^ 16 - 1 = 65535 from rfl] at this
    rw [this]; exact Nat.mod_eq_of_lt (by omega)
  show IntKind.i64.wrap ((BitVec.ofInt 64 (a : Int) &&& BitVec.ofInt 64 ((65535 : Nat) : Int)).toNat : Int) = _
  rw [BitVec.toNat_and, ofInt_u64 _ (by omega), ofInt_u64 _ (by omega), h1]
  exact IntWalk.i64_in _ ⟨by omega, by omega⟩
end
attribute [local irreducible] Code.wp wpList stepK Holds Val wpR Eff Eff0 Code.wpIn wpListIn stepI Exit.then Exit.inBlock bodyPost bodyPostM
abbrev RnO (pn : Nat) (v : Value) (bad : Int) : Nat × Obj := (pn, Cs [v, I64 bad] 88)
theorem pput_bad {s : Pn} (h : s.2 ≠ 0) (e : Int) (ys : List UInt8) : pput s e ys = s := if_pos h
theorem pnum_bad {s : Pn} (h : s.2 ≠ 0) (x i : Int) : pnum s x i = s := by unfold pnum; split <;> exact pput_bad h _ _
theorem praw_bad {s : Pn} (h : s.2 ≠ 0) (ys : List UInt8) : praw s ys = s := by unfold praw; split <;> exact pput_bad h _ _
theorem pnum_not {xs : List UInt8} {x i : Int} (h : ¬ goodN x i) : pnum (xs, 0) x i = (xs, 1) := by
  unfold pnum; rw [if_neg h]; rfl
theorem be2 (x : Int) : be x 2 = [lowB (x / 256), lowB x] := by
  simp [be, List.range_succ]

-- (*pinstripe/pinstriperef1.Pen).add
theorem rpadd_c (pn : Nat) (v : Value) (s : Pn) (B : Hp) (vb : Value) (ys : List UInt8) (hlen : s.1.length ≤ 65536) (hys : ys.length ≤ 1000000) (w0 w : World) (G : Im) (F : Hp) (hown : OB v s.1 B) (hb : SV G (RnO pn v s.2 :: (B ++ F)) vb ys.length (ys.map B8)) (hs : Sat w0 w G (RnO pn v s.2 :: (B ++ F))) :
    Calls Try.prog 72 #[Pt pn 0, vb] w fun r w' => ∃ v' B', r = .returned (.tuple #[]) ∧ OB v' (pput s 0 ys).1 B' ∧ Sat w0 w' G (RnO pn v' (pput s 0 ys).2 :: (B' ++ F)) := by
  obtain ⟨xs, bad⟩ := s
  dsimp only at hlen hown hb hs
  obtain ⟨ad, c, rfl⟩ := hown.form
  obtain ⟨adb, cb, rfl, hcb1, hcb2, hb3⟩ := id hb
  refine f_enter (vs := [_, _]) Try.func72 rfl Try.ntmps72 (by simp) hs ?_
  refine ww ?_
  refine c_cons (s_val (v_field 1 rfl (by kernel_rfl)) rfl rfl rfl ?_)
  refine c_cons (s_val (v_load rfl (Cel.head rfl) (by kernel_rfl)) rfl rfl rfl ?_)
  refine ww ?_
  by_cases hb0 : bad = 0
  rotate_left
  · have e1 : pput (xs, bad) 0 ys = (xs, bad) := if_pos hb0
    rw [e1]
    refine c_kf 9 rfl hb0 ?_
    refine ww ?_
    refine c_cond_f rfl ?_
    refine ww ?_
    refine c_cons (s_val (v_field 1 rfl (by kernel_rfl)) rfl rfl rfl ?_)
    refine c_cons (s_val (v_load rfl (Cel.head rfl) (by kernel_rfl)) rfl rfl rfl ?_)
    refine ww ?_
    refine c_cond_d rfl (fun c1 => absurd c1 hb0) (fun c1 => ?_)
    refine ww ?_
    exact f_end0 rfl (fun w hs => ⟨_, B, rfl, hown, hs⟩)
  subst hb0
  refine ww ?_
  refine c_cons (s_val (v_field 0 rfl (by kernel_rfl)) rfl rfl rfl ?_)
  refine c_cons (s_val (v_load rfl (Cel.head rfl) (by kernel_rfl)) rfl rfl rfl ?_)
  refine ww ?_
  refine c_cond_d rfl (fun c2 => ?_) (fun c2 => ?_)
  · have e1 : pput (xs, 0) 0 ys = (xs, 3) := by unfold pput; rw [if_neg (by simp), if_neg (by simp), if_pos (by dsimp only; omega)]
    rw [e1]
    refine ww ?_
    refine c_cons (s_val (v_field 1 rfl (by kernel_rfl)) rfl rfl rfl ?_)
    refine c_cons (s_store1 rfl rfl rfl .head (by kernel_rfl) rfl (by simp) ?_)
    refine ww ?_
    refine c_cons (s_val (v_field 1 rfl (by kernel_rfl)) rfl rfl rfl ?_)
    refine c_cons (s_val (v_load rfl (Cel.head rfl) (by kernel_rfl)) rfl rfl rfl ?_)
    refine ww ?_
    refine c_cond_f rfl ?_
    refine ww ?_
    exact f_end0 rfl (fun w hs => ⟨_, B, rfl, hown, hs⟩)
  have e1 : pput (xs, 0) 0 ys = (xs ++ ys, 0) := by unfold pput; rw [if_neg (by simp), if_neg (by simp), if_neg (by dsimp only; omega)]
  rw [e1]
  refine ww ?_
  refine c_cons (s_val (v_field 1 rfl (by kernel_rfl)) rfl rfl rfl ?_)
  refine c_cons (s_val (v_load rfl (Cel.head rfl) (by kernel_rfl)) rfl rfl rfl ?_)
  refine ww ?_
  refine c_cond_t rfl ?_
  refine ww ?_
  refine c_cons (s_val (v_field 0 rfl (by kernel_rfl)) rfl rfl rfl ?_)
  refine c_cons (s_val (v_load rfl (Cel.head rfl) (by kernel_rfl)) rfl rfl rfl ?_)
  refine ww ?_
  refine c_cons (s_append (e := 5) (z := B8 0) (sz := 1) (bs := 1) (by kernel_rfl) rfl rfl rfl rfl hown (Chunk.tail Chunk.head) hb rfl (by decide) (by simp) (B8_one ys) (by omega) (by omega) fun u1 B1 hown1 => ?_)
  rw [← List.length_append, ← List.map_append] at hown1
  obtain ⟨ad1, c1, rfl⟩ := hown1.form
  refine c_sub (RnO pn (.slice ad xs.length c) 0 :: (B1 ++ F)) sbx ?_
  refine ww ?_
  refine c_cons (s_val (v_field 0 rfl (by kernel_rfl)) rfl rfl rfl ?_)
  refine c_cons (s_store1 rfl rfl rfl .head (by kernel_rfl) rfl (by simp) ?_)
  refine ww ?_
  exact f_end0 rfl (fun w hs => ⟨_, B1, rfl, hown1, hs⟩)

-- (*pinstripe/pinstriperef1.Pen).Num
theorem rpnum_c (pn : Nat) (v : Value) (s : Pn) (B : Hp) (x i : Int) (hlen : s.1.length ≤ 65536) (w0 w : World) (G : Im) (F : Hp) (hown : OB v s.1 B) (hs : Sat w0 w G (RnO pn v s.2 :: (B ++ F))) :
    Calls Try.prog 34 #[Pt pn 0, I64 x, I64 i] w fun r w' => ∃ v' B', r = .returned (.tuple #[]) ∧ OB v' (pnum s x i).1 B' ∧ Sat w0 w' G (RnO pn v' (pnum s x i).2 :: (B' ++ F)) := by
  obtain ⟨xs, bad⟩ := s
  dsimp only at hlen hown hs
  refine f_enter (vs := [_, _, _]) Try.func34 rfl Try.ntmps34 (by simp) hs ?_
  refine ww ?_
  refine c_cons (s_val (v_field 1 rfl (by kernel_rfl)) rfl rfl rfl ?_)
  refine c_cons (s_val (v_load rfl (Cel.head rfl) (by kernel_rfl)) rfl rfl rfl ?_)
  refine ww ?_
  by_cases hb0 : bad = 0
  rotate_left
  · have e1 : pnum (xs, bad) x i = (xs, bad) := pnum_bad hb0 _ _
    rw [e1]
    refine c_kf 13 rfl hb0 ?_
    refine ww ?_
    refine c_cond_f rfl ?_
    refine ww ?_
    refine c_cons (s_val (v_field 1 rfl (by kernel_rfl)) rfl rfl rfl ?_)
    refine c_cons (s_val (v_load rfl (Cel.head rfl) (by kernel_rfl)) rfl rfl rfl ?_)
    refine ww ?_
    refine c_cond_d rfl (fun c1 => ?_) (fun c1 => absurd hb0 c1)
    refine ww ?_
    exact f_ret0 rfl (fun w hs => ⟨_, B, rfl, hown, hs⟩)
  subst hb0
  refine ww ?_
  refine c_part_d 16 _ rfl (fun c1 => ?_) (fun c1 => ?_)
  · rw [pnum_not (fun h => by have := h.1; omega)]
    refine ww ?_
    refine c_cond_t rfl ?_
    refine ww ?_
    refine c_cons (s_val (v_field 1 rfl (by kernel_rfl)) rfl rfl rfl ?_)
    refine c_cons (s_store1 rfl rfl rfl .head (by kernel_rfl) rfl (by simp) ?_)
    refine ww ?_
    refine c_cons (s_val (v_field 1 rfl (by kernel_rfl)) rfl rfl rfl ?_)
    refine c_cons (s_val (v_load rfl (Cel.head rfl) (by kernel_rfl)) rfl rfl rfl ?_)
    refine ww ?_
    refine c_cond_t rfl ?_
    refine ww ?_
    exact f_ret0 rfl (fun w hs => ⟨_, B, rfl, hown, hs⟩)
  refine ww ?_
  refine c_part_d 20 _ rfl (fun c2 => ?_) (fun c2 => ?_)
  · rw [pnum_not (fun h => by have := h.1; omega)]
    refine ww ?_
    refine c_cond_t rfl ?_
    refine ww ?_
    refine c_cons (s_val (v_field 1 rfl (by kernel_rfl)) rfl rfl rfl ?_)
    refine c_cons (s_store1 rfl rfl rfl .head (by kernel_rfl) rfl (by simp) ?_)
    refine ww ?_
    refine c_cons (s_val (v_field 1 rfl (by kernel_rfl)) rfl rfl rfl ?_)
    refine c_cons (s_val (v_load rfl (Cel.head rfl) (by kernel_rfl)) rfl rfl rfl ?_)
    refine ww ?_
    refine c_cond_t rfl ?_
    refine ww ?_
    exact f_ret0 rfl (fun w hs => ⟨_, B, rfl, hown, hs⟩)
  refine ww ?_
  refine c_part_d 24 _ rfl (fun c3 => ?_) (fun c3 => ?_)
  · rw [pnum_not (fun h => by have := h.2.1; omega)]
    refine ww ?_
    refine c_cond_t rfl ?_
    refine ww ?_
    refine c_cons (s_val (v_field 1 rfl (by kernel_rfl)) rfl rfl rfl ?_)
    refine c_cons (s_store1 rfl rfl rfl .head (by kernel_rfl) rfl (by simp) ?_)
    refine ww ?_
    refine c_cons (s_val (v_field 1 rfl (by kernel_rfl)) rfl rfl rfl ?_)
    refine c_cons (s_val (v_load rfl (Cel.head rfl) (by kernel_rfl)) rfl rfl rfl ?_)
    refine ww ?_
    refine c_cond_t rfl ?_
    refine ww ?_
    exact f_ret0 rfl (fun w hs => ⟨_, B, rfl, hown, hs⟩)
  obtain ⟨n, rfl⟩ : ∃ k : Nat, i = (k : Int) := ⟨i.toNat, by omega⟩
  have hn : 1 ≤ n ∧ n ≤ 7 := by omega
  have hpw := pow8 hn
  have h8 : ∀ i : Nat, ((8 : Int) * (i : Int)).toNat = 8 * i := fun i => by omega
  refine ww ?_
  refine c_cons (s_val (v_mul rfl rfl (by omega)) rfl rfl rfl ?_)
  refine c_cons (s_val (v_tou rfl (by kernel_rfl) (by kernel_rfl) (by omega)) rfl rfl rfl ?_)
  refine c_cons (s_val (v_shl rfl rfl (by omega) (by rw [h8, Int.one_mul]; omega)) rfl rfl rfl ?_)
  rw [h8, Int.one_mul]
  refine ww ?_
  refine c_cond_d rfl (fun c4 => ?_) (fun c4 => ?_)
  · rw [pnum_not (fun h => by have := h.2.2; rw [Int.toNat_natCast] at this; omega)]
    refine ww ?_
    refine c_cons (s_val (v_field 1 rfl (by kernel_rfl)) rfl rfl rfl ?_)
    refine c_cons (s_store1 rfl rfl rfl .head (by kernel_rfl) rfl (by simp) ?_)
    refine ww ?_
    refine c_cons (s_val (v_field 1 rfl (by kernel_rfl)) rfl rfl rfl ?_)
    refine c_cons (s_val (v_load rfl (Cel.head rfl) (by kernel_rfl)) rfl rfl rfl ?_)
    refine ww ?_
    refine c_cond_t rfl ?_
    refine ww ?_
    exact f_ret0 rfl (fun w hs => ⟨_, B, rfl, hown, hs⟩)
  have e1 : pnum (xs, 0) x n = pput (xs, 0) 0 (be x n) := by
    unfold pnum
    rw [Int.toNat_natCast]
    exact if_pos ⟨by omega, by omega, by rw [Int.toNat_natCast]; omega⟩
  rw [e1]
  refine ww ?_
  refine c_cons (s_val (v_field 1 rfl (by kernel_rfl)) rfl rfl rfl ?_)
  refine c_cons (s_val (v_load rfl (Cel.head rfl) (by kernel_rfl)) rfl rfl rfl ?_)
  refine ww ?_
  refine c_cond_f rfl ?_
  refine ww ?_
  refine c_loop (α := Nat × Value × Hp) (fun z => [(0, Pt pn 0), (1, I64 x), (6, z.2.1), (7, I64 ((n : Int) - 1 - z.1))]) (fun _ => G) (fun z => RnO pn v 0 :: (B ++ (z.2.2 ++ F))) (fun z => z.1 ≤ n ∧ Own z.2.1 z.1 (((be x n).take z.1).map B8) 5 1 z.2.2) (fun z => n - z.1) (0, .slice none 0 0, []) ⟨Nat.zero_le _, Own.zero none _ _⟩ ?_ ?_
  · exact n_at ⟨rfl, rfl, rfl, by simp [List.lookup], trivial⟩ sbx
  rintro ⟨i, u, Bo⟩ ⟨hi, ho⟩
  dsimp only at hi ho ⊢
  refine ww ?_
  refine c_cond_d rfl (fun c1 => ?_) (fun c1 => ?_)
  · -- then
    have hil : i < n := by omega
    have hi2 : ((n : Int) - 1 - i) = ((n - 1 - i : Nat) : Int) := by omega
    rw [hi2]
    refine ww ?_
    refine c_cons (s_val (v_mul rfl rfl (by omega)) rfl rfl rfl ?_)
    refine c_cons (s_val (v_tou rfl (by kernel_rfl) (by kernel_rfl) (by omega)) rfl rfl rfl ?_)
    refine c_cons (s_val (v_shr rfl rfl (by omega)) rfl rfl rfl ?_)
    rw [h8]
    refine c_cons (s_val (v_byte rfl (by kernel_rfl) (by kernel_rfl)) rfl rfl rfl ?_)
    refine c_cons (s_lit (z := B8 0) (bs := 1) (e := 5) [_] (by kernel_rfl) rfl rfl rfl rfl (by simp [Value.oneCell']) rfl (by decide) fun b1 => ?_)
    refine c_cons (s_append (e := 5) (z := B8 0) (sz := 1) (bs := 1) (by kernel_rfl) rfl rfl rfl rfl ho (Chunk.tail (Chunk.tail (Chunk.app Chunk.head))) (news := [B8 (lowB (x / 2 ^ (8 * (n - 1 - i))))]) (SV.block .head (by simp [maxLen])) rfl (by decide) rfl (by simp [Value.oneCell']) (by simp; omega) (by simp; omega) fun u2 B2 hown2 => ?_)
    refine ww ?_
    exact n_next (x := (i, u, Bo)) (i + 1, u2, B2) ⟨by omega, by dsimp only; rw [be_snoc x n i hil, List.map_append]; exact hown2⟩ (by dsimp only; omega) ⟨rfl, rfl, rfl, by simp [List.lookup]; omega, trivial⟩ rfl sbx
  have e : i = n := by omega
  subst e
  rw [List.take_of_length_le (by rw [be_len]; exact Nat.le_refl _)] at ho
  refine ww ?_
  refine c_cons (s_call (xs := [_, _]) rfl rfl rfl rfl rfl rfl (by kernel_rfl) (fun w hs => rpadd_c pn _ (xs, 0) B _ (be x i) hlen (by rw [be_len]; omega) _ w _ _ hown (by have := ho.sv (G := G) (H := RnO pn v 0 :: (B ++ (Bo ++ F))) (fun p hp => by simp [hp]); rw [be_len]; exact this) hs) ?_)
  rintro e w' ⟨v1, B1, rfl, hown1, hs'⟩; refine a_ret ?_ hs'; clear hs'
  refine ww ?_
  exact f_end0 rfl (fun w hs => ⟨v1, B1, rfl, hown1, hs.sb⟩)

-- (*pinstripe/pinstriperef1.Pen).Raw
theorem rpraw_c (pn : Nat) (v : Value) (s : Pn) (B : Hp) (vb : Value) (ys : List UInt8) (hlen : s.1.length ≤ 65536) (hys : ys.length ≤ 1000000) (w0 w : World) (G : Im) (F : Hp) (hown : OB v s.1 B) (hb : EB G vb ys) (hs : Sat w0 w G (RnO pn v s.2 :: (B ++ F))) :
    Calls Try.prog 35 #[Pt pn 0, vb] w fun r w' => ∃ v' B', r = .returned (.tuple #[]) ∧ OB v' (praw s ys).1 B' ∧ Sat w0 w' G (RnO pn v' (praw s ys).2 :: (B' ++ F)) := by
  obtain ⟨xs, bad⟩ := s
  dsimp only at hlen hown hs
  obtain ⟨ad, c, rfl⟩ := hown.form
  obtain ⟨adb, cb, rfl, hcb1, hcb2, hb3⟩ := id hb
  refine f_enter (vs := [_, _]) Try.func35 rfl Try.ntmps35 (by simp) hs ?_
  refine ww ?_
  refine c_cons (s_val (v_field 1 rfl (by kernel_rfl)) rfl rfl rfl ?_)
  refine c_cons (s_val (v_load rfl (Cel.head rfl) (by kernel_rfl)) rfl rfl rfl ?_)
  refine ww ?_
  by_cases hb0 : bad = 0
  rotate_left
  · have e1 : praw (xs, bad) ys = (xs, bad) := praw_bad hb0 _
    rw [e1]
    refine c_kf 9 rfl hb0 ?_
    refine ww ?_
    refine c_cond_f rfl ?_
    refine ww ?_
    refine c_cons (s_val (v_field 1 rfl (by kernel_rfl)) rfl rfl rfl ?_)
    refine c_cons (s_val (v_load rfl (Cel.head rfl) (by kernel_rfl)) rfl rfl rfl ?_)
    refine ww ?_
    refine c_kf 22 rfl hb0 ?_
    refine ww ?_
    refine c_cond_f rfl ?_
    refine ww ?_
    refine c_cons (s_val (v_andG rfl rfl) rfl rfl rfl ?_)
    refine c_cons (s_call (xs := [_, _, _]) rfl rfl rfl rfl rfl rfl (by kernel_rfl) (fun w hs => rpnum_c pn _ (xs, bad) B _ _ hlen _ w _ _ hown hs) ?_)
    rw [pnum_bad (s := (xs, bad)) hb0]
    rintro e w' ⟨v1, B1, rfl, hown1, hs'⟩; refine a_ret ?_ hs'; clear hs'
    refine ww ?_
    refine c_cons (s_call (xs := [_, _]) rfl rfl rfl rfl rfl rfl (by kernel_rfl) (fun w hs => rpadd_c pn _ (xs, bad) B1 _ ys hlen hys _ w _ _ hown1 (hb.mono (Im.le_refl _) (by simp)) hs) ?_)
    rw [pput_bad (s := (xs, bad)) hb0]
    rintro e w' ⟨v2, B2, rfl, hown2, hs'⟩; refine a_ret ?_ hs'; clear hs'
    refine ww ?_
    exact f_end0 rfl (fun w hs => ⟨_, B2, rfl, hown2, hs⟩)
  subst hb0
  have h3 : ∀ x i, pnum (xs, 3) x i = (xs, 3) := fun x i => pnum_bad (s := (xs, 3)) (by simp) _ _
  have h3' : ∀ e ys, pput (xs, 3) e ys = (xs, 3) := fun x i => pput_bad (s := (xs, 3)) (by simp) _ _
  refine ww ?_
  refine c_cond_d rfl (fun c1 => ?_) (fun c1 => ?_)
  · have e1 : praw (xs, 0) ys = (xs, 3) := by unfold praw; rw [if_pos (by omega)]; rfl
    rw [e1]
    refine ww ?_
    refine c_cons (s_val (v_field 1 rfl (by kernel_rfl)) rfl rfl rfl ?_)
    refine c_cons (s_store1 rfl rfl rfl .head (by kernel_rfl) rfl (by simp) ?_)
    refine ww ?_
    refine c_cons (s_val (v_field 1 rfl (by kernel_rfl)) rfl rfl rfl ?_)
    refine c_cons (s_val (v_load rfl (Cel.head rfl) (by kernel_rfl)) rfl rfl rfl ?_)
    refine ww ?_
    refine c_cond_f rfl ?_
    refine ww ?_
    refine c_cons (s_val (v_andG rfl rfl) rfl rfl rfl ?_)
    change Holds _ _ _ _ _ (RnO pn (.slice ad xs.length c) (((xs, 3) : Pn).2) :: (B ++ F)) _
    refine c_cons (s_call (xs := [_, _, _]) rfl rfl rfl rfl rfl rfl (by kernel_rfl) (fun w hs => rpnum_c pn _ (xs, 3) B _ _ hlen _ w _ _ hown hs) ?_)
    rw [h3]
    rintro e w' ⟨v1, B1, rfl, hown1, hs'⟩; refine a_ret ?_ hs'; clear hs'
    refine ww ?_
    refine c_cons (s_call (xs := [_, _]) rfl rfl rfl rfl rfl rfl (by kernel_rfl) (fun w hs => rpadd_c pn _ (xs, 3) B1 _ ys hlen hys _ w _ _ hown1 (hb.mono (Im.le_refl _) (by simp)) hs) ?_)
    rw [h3']
    rintro e w' ⟨v2, B2, rfl, hown2, hs'⟩; refine a_ret ?_ hs'; clear hs'
    refine ww ?_
    exact f_end0 rfl (fun w hs => ⟨_, B2, rfl, hown2, hs⟩)
  refine ww ?_
  refine c_cons (s_val (v_field 1 rfl (by kernel_rfl)) rfl rfl rfl ?_)
  refine c_cons (s_val (v_load rfl (Cel.head rfl) (by kernel_rfl)) rfl rfl rfl ?_)
  refine ww ?_
  refine c_cons (s_val (v_field 0 rfl (by kernel_rfl)) rfl rfl rfl ?_)
  refine c_cons (s_val (v_load rfl (Cel.head rfl) (by kernel_rfl)) rfl rfl rfl ?_)
  refine ww ?_
  refine c_cond_d rfl (fun c2 => ?_) (fun c2 => ?_)
  · have e1 : praw (xs, 0) ys = (xs, 3) := by
      unfold praw; rw [if_neg (by omega)]; unfold pput; rw [if_neg (by simp), if_neg (by simp), if_pos (by simp; omega)]
    rw [e1]
    refine ww ?_
    refine c_cons (s_val (v_field 1 rfl (by kernel_rfl)) rfl rfl rfl ?_)
    refine c_cons (s_store1 rfl rfl rfl .head (by kernel_rfl) rfl (by simp) ?_)
    refine ww ?_
    refine c_cons (s_val (v_andG rfl rfl) rfl rfl rfl ?_)
    change Holds _ _ _ _ _ (RnO pn (.slice ad xs.length c) (((xs, 3) : Pn).2) :: (B ++ F)) _
    refine c_cons (s_call (xs := [_, _, _]) rfl rfl rfl rfl rfl rfl (by kernel_rfl) (fun w hs => rpnum_c pn _ (xs, 3) B _ _ hlen _ w _ _ hown hs) ?_)
    rw [h3]
    rintro e w' ⟨v1, B1, rfl, hown1, hs'⟩; refine a_ret ?_ hs'; clear hs'
    refine ww ?_
    refine c_cons (s_call (xs := [_, _]) rfl rfl rfl rfl rfl rfl (by kernel_rfl) (fun w hs => rpadd_c pn _ (xs, 3) B1 _ ys hlen hys _ w _ _ hown1 (hb.mono (Im.le_refl _) (by simp)) hs) ?_)
    rw [h3']
    rintro e w' ⟨v2, B2, rfl, hown2, hs'⟩; refine a_ret ?_ hs'; clear hs'
    refine ww ?_
    exact f_end0 rfl (fun w hs => ⟨_, B2, rfl, hown2, hs⟩)
  have hyl : ys.length ≤ 65535 := by omega
  have e2 : pnum (xs, 0) (ys.length : Int) 2 = (xs ++ [lowB ((ys.length : Int) / 256), lowB (ys.length : Int)], 0) := by
    unfold pnum
    rw [if_pos (show goodN (ys.length : Int) 2 from ⟨by decide, by omega, by show (ys.length : Int) < 65536; omega⟩)]
    show pput (xs, 0) 0 (be (ys.length : Int) 2) = _
    rw [be2]
    unfold pput; rw [if_neg (by simp), if_neg (by simp), if_neg (by simp; omega)]
  have e1 : praw (xs, 0) ys = pput (xs ++ [lowB ((ys.length : Int) / 256), lowB (ys.length : Int)], 0) 0 ys := by
    unfold praw; rw [if_neg (by omega)]; unfold pput; rw [if_neg (by simp), if_neg (by simp), if_neg (by simp; omega), if_neg (by simp), if_neg (by simp), if_neg (by simp; omega)]
    simp
  rw [e1]
  refine ww ?_
  refine c_cons (s_val (v_andG rfl rfl) rfl rfl rfl ?_)
  rw [and65535 _ hyl]
  refine c_cons (s_call (xs := [_, _, _]) rfl rfl rfl rfl rfl rfl (by kernel_rfl) (fun w hs => rpnum_c pn _ (xs, 0) B _ _ hlen _ w _ _ hown hs) ?_)
  rw [e2]
  rintro e w' ⟨v1, B1, rfl, hown1, hs'⟩; refine a_ret ?_ hs'; clear hs'
  refine ww ?_
  refine c_cons (s_call (xs := [_, _]) rfl rfl rfl rfl rfl rfl (by kernel_rfl) (fun w hs => rpadd_c pn _ (xs ++ [lowB ((ys.length : Int) / 256), lowB (ys.length : Int)], 0) B1 _ ys (by simp; omega) hys _ w _ _ hown1 (hb.mono (Im.le_refl _) (by simp)) hs) ?_)
  rintro e w' ⟨v2, B2, rfl, hown2, hs'⟩; refine a_ret ?_ hs'; clear hs'
  refine ww ?_
  exact f_end0 rfl (fun w hs => ⟨_, B2, rfl, hown2, hs⟩)

-- (*pinstripe/pinstriperef1.Pen).Bool
theorem rpbool_c (pn : Nat) (v : Value) (s : Pn) (B : Hp) (b : Bool) (hlen : s.1.length ≤ 65536) (w0 w : World) (G : Im) (F : Hp) (hown : OB v s.1 B) (hs : Sat w0 w G (RnO pn v s.2 :: (B ++ F))) :
    Calls Try.prog 36 #[Pt pn 0, .bool b] w fun r w' => ∃ v' B', r = .returned (.tuple #[]) ∧ OB v' (pbool s b).1 B' ∧ Sat w0 w' G (RnO pn v' (pbool s b).2 :: (B' ++ F)) := by
  refine f_enter (vs := [_, _]) Try.func36 rfl Try.ntmps36 (by simp) hs ?_
  cases b with
  | true =>
    have e1 : pbool s true = pnum s 1 1 := by
      unfold pnum; rw [if_pos (show goodN 1 1 by decide), show be 1 (1 : Int).toNat = [1] by decide]; rfl
    rw [e1]
    refine ww ?_
    refine c_cond_t rfl ?_
    refine ww ?_
    refine c_cons (s_call (xs := [_, _, _]) rfl rfl rfl rfl rfl rfl (by kernel_rfl) (fun w hs => rpnum_c pn _ s B 1 1 hlen _ w _ _ hown hs) ?_)
    rintro e w' ⟨v1, B1, rfl, hown1, hs'⟩; refine a_ret ?_ hs'; clear hs'
    refine ww ?_
    exact f_end0 rfl (fun w hs => ⟨_, _, rfl, hown1, hs⟩)
  | false =>
    have e1 : pbool s false = pnum s 0 1 := by
      unfold pnum; rw [if_pos (show goodN 0 1 by decide), show be 0 (1 : Int).toNat = [0] by decide]; rfl
    rw [e1]
    refine ww ?_
    refine c_cond_f rfl ?_
    refine ww ?_
    refine c_cons (s_call (xs := [_, _, _]) rfl rfl rfl rfl rfl rfl (by kernel_rfl) (fun w hs => rpnum_c pn _ s B 0 1 hlen _ w _ _ hown hs) ?_)
    rintro e w' ⟨v1, B1, rfl, hown1, hs'⟩; refine a_ret ?_ hs'; clear hs'
    refine ww ?_
    exact f_end0 rfl (fun w hs => ⟨_, _, rfl, hown1, hs⟩)

-- (*pinstripe/pinstriperef1.Pen).Bytes
theorem rpbytes_c (pn : Nat) (v : Value) (s : Pn) (hlen : s.1.length ≤ 65536) (w0 w : World) (G : Im) (F : Hp) (hv : EB G v s.1) (hs : Sat w0 w G (RnO pn v s.2 :: F)) :
    Calls Try.prog 39 #[Pt pn 0] w fun r w' => ∃ G' u, r = .returned (.tuple #[u, I64 s.2]) ∧ Im.le G G' ∧ EB G' u (if s.2 ≠ 0 then [] else s.1) ∧ Sat w0 w' G' (RnO pn v s.2 :: F) := by
  obtain ⟨xs, bad⟩ := s
  dsimp only at hlen hv hs ⊢
  refine f_enter (vs := [_]) Try.func39 rfl Try.ntmps39 (by simp) hs ?_
  refine ww ?_
  refine c_cons (s_val (v_field 1 rfl (by kernel_rfl)) rfl rfl rfl ?_)
  refine c_cons (s_val (v_load rfl (Cel.head rfl) (by kernel_rfl)) rfl rfl rfl ?_)
  refine ww ?_
  refine c_cond_d rfl (fun c2 => ?_) (fun c2 => ?_)
  · rw [if_pos c2]
    refine ww ?_
    refine r_startS [RnO pn v bad] [] (by kernel_rfl) (fun w h => h.sb) ?_
    refine r_tk 0 rfl rfl (v_move rfl) (fun _ h => h.sb) ?_
    refine r_tk 1 rfl rfl (v_nilCheck rfl) (fun _ h => h.sb) ?_
    refine r_tk 2 rfl rfl (v_field 1 rfl (by kernel_rfl)) (fun _ h => h.sb) ?_
    refine r_tk 3 rfl rfl (v_load rfl (Cel.head rfl) (by kernel_rfl)) (fun _ h => h.sb) ?_
    refine r_tk 4 rfl rfl (v_assign rfl) (fun _ h => h.sb) ?_
    refine r_tk 5 rfl rfl (v_assign rfl) (fun _ h => h.sb) ?_
    refine r_done (by kernel_rfl) ?_
    refine ww ?_
    exact f_ret2 rfl rfl rfl (fun w hs => ⟨G, _, rfl, Im.le_refl _, SV.nil _ _, hs⟩)
  have hb0 : bad = 0 := by omega
  subst hb0
  rw [if_neg c2]
  refine ww ?_
  refine c_cons (s_val (v_field 0 rfl (by kernel_rfl)) rfl rfl rfl ?_)
  refine c_cons (s_val (v_load rfl (Cel.head rfl) (by kernel_rfl)) rfl rfl rfl ?_)
  refine c_cons (s_call (xs := [_]) rfl rfl rfl rfl rfl rfl (by kernel_rfl) (fun w hs => copy_c _ xs _ w _ _ hv (by omega) hs) ?_)
  rintro e w' ⟨G1, u1, rfl, hG1, hu1, hs'⟩; refine a_ret ?_ hs'; clear hs'
  refine ww ?_
  exact f_ret2 rfl rfl rfl (fun w hs => ⟨G1, u1, rfl, hG1, hu1, hs⟩)
end

section
open Go
set_option linter.unusedVariables false
set_option linter.unusedSimpArgs false
set_option maxHeartbeats 1600000
attribute [local irreducible] Code.wp wpList stepK Holds Val wpR Eff Eff0 Code.wpIn wpListIn stepI Exit.then Exit.inBlock bodyPost bodyPostM

theorem rnptr_c (pn : Nat) (v : Value) (s : Pn) (B : Hp) (x : P5) (hlen : s.1.length ≤ 65536) (w0 w : World) (G : Im) (F : Hp) (hown : OB v s.1 B) (hs : Sat w0 w G (RnO pn v s.2 :: (B ++ F))) :
    Calls Try.prog 73 #[Pt pn 0, x.V] w fun e w' => ∃ v' B', e = .returned (.tuple #[]) ∧ OB v' (pptr s x).1 B' ∧ Sat w0 w' G (RnO pn v' (pptr s x).2 :: (B' ++ F)) := by
  have l1 := pnum_len hlen x.c 1
  have l2 := pnum_len l1 x.l 3
  have l3 := pnum_len l2 x.n 4
  have l4 := pnum_len l3 x.a 2
  refine f_enter (vs := [_, _]) Try.func73 rfl Try.ntmps73 (by simp) hs ?_
  refine ww ?_
  refine c_cons (s_boxA [_, _, _, _, _] rfl rfl rfl fun b1 => ?_)
  refine c_sub (RnO pn v s.2 :: (B ++ ((b1, Cs [I64 x.c, I64 x.l, I64 x.n, I64 x.a, I64 x.k] 73) :: F))) sbx ?_
  refine ww ?_
  refine c_cons (s_val (v_field 0 rfl (by kernel_rfl)) rfl rfl rfl ?_)
  refine c_cons (s_val (v_field 0 rfl (by kernel_rfl)) rfl rfl rfl ?_)
  refine c_cons (s_val (v_load rfl (Cel.mem (b := b1) (L := [I64 x.c, I64 x.l, I64 x.n, I64 x.a, I64 x.k]) (t := 73) (by simp) rfl) (by kernel_rfl)) rfl rfl rfl ?_)
  refine c_cons (s_call (xs := [_, _, _]) rfl rfl rfl rfl rfl rfl (by kernel_rfl) (fun w hs => rpnum_c pn v s B x.c 1 hlen _ w _ _ hown hs) ?_)
  rintro e w' ⟨v1, B1, rfl, hown1, hs'⟩; refine a_ret ?_ hs'; clear hs'
  refine ww ?_
  refine c_cons (s_val (v_field 0 rfl (by kernel_rfl)) rfl rfl rfl ?_)
  refine c_cons (s_val (v_field 1 rfl (by kernel_rfl)) rfl rfl rfl ?_)
  refine c_cons (s_val (v_load rfl (Cel.mem (b := b1) (L := [I64 x.c, I64 x.l, I64 x.n, I64 x.a, I64 x.k]) (t := 73) (by simp) rfl) (by kernel_rfl)) rfl rfl rfl ?_)
  refine c_cons (s_call (xs := [_, _, _]) rfl rfl rfl rfl rfl rfl (by kernel_rfl) (fun w hs => rpnum_c pn v1 (pnum s x.c 1) B1 x.l 3 l1 _ w _ _ hown1 hs) ?_)
  rintro e w' ⟨v2, B2, rfl, hown2, hs'⟩; refine a_ret ?_ hs'; clear hs'
  refine ww ?_
  refine c_cons (s_val (v_field 0 rfl (by kernel_rfl)) rfl rfl rfl ?_)
  refine c_cons (s_val (v_field 2 rfl (by kernel_rfl)) rfl rfl rfl ?_)
  refine c_cons (s_val (v_load rfl (Cel.mem (b := b1) (L := [I64 x.c, I64 x.l, I64 x.n, I64 x.a, I64 x.k]) (t := 73) (by simp) rfl) (by kernel_rfl)) rfl rfl rfl ?_)
  refine c_cons (s_call (xs := [_, _, _]) rfl rfl rfl rfl rfl rfl (by kernel_rfl) (fun w hs => rpnum_c pn v2 (pnum (pnum s x.c 1) x.l 3) B2 x.n 4 l2 _ w _ _ hown2 hs) ?_)
  rintro e w' ⟨v3, B3, rfl, hown3, hs'⟩; refine a_ret ?_ hs'; clear hs'
  refine ww ?_
  refine c_cons (s_val (v_field 3 rfl (by kernel_rfl)) rfl rfl rfl ?_)
  refine c_cons (s_val (v_load rfl (Cel.mem (b := b1) (L := [I64 x.c, I64 x.l, I64 x.n, I64 x.a, I64 x.k]) (t := 73) (by simp) rfl) (by kernel_rfl)) rfl rfl rfl ?_)
  refine c_cons (s_call (xs := [_, _, _]) rfl rfl rfl rfl rfl rfl (by kernel_rfl) (fun w hs => rpnum_c pn v3 (pnum (pnum (pnum s x.c 1) x.l 3) x.n 4) B3 x.a 2 l3 _ w _ _ hown3 hs) ?_)
  rintro e w' ⟨v4, B4, rfl, hown4, hs'⟩; refine a_ret ?_ hs'; clear hs'
  refine ww ?_
  refine c_cons (s_val (v_field 4 rfl (by kernel_rfl)) rfl rfl rfl ?_)
  refine c_cons (s_val (v_load rfl (Cel.mem (b := b1) (L := [I64 x.c, I64 x.l, I64 x.n, I64 x.a, I64 x.k]) (t := 73) (by simp) rfl) (by kernel_rfl)) rfl rfl rfl ?_)
  refine c_cons (s_call (xs := [_, _, _]) rfl rfl rfl rfl rfl rfl (by kernel_rfl) (fun w hs => rpnum_c pn v4 (pnum (pnum (pnum (pnum s x.c 1) x.l 3) x.n 4) x.a 2) B4 x.k 1 l4 _ w _ _ hown4 hs) ?_)
  rintro e w' ⟨v5, B5, rfl, hown5, hs'⟩; refine a_ret ?_ hs'; clear hs'
  refine ww ?_
  exact f_end0 rfl (fun w hs => ⟨v5, B5, rfl, hown5, (show Sat w0 w G (RnO pn v5 (pnum (pnum (pnum (pnum (pnum s x.c 1) x.l 3) x.n 4) x.a 2) x.k 1).2 :: (B5 ++ F)) from hs.sb)⟩)

theorem rnstripe_c (pn : Nat) (v : Value) (s : Pn) (B : Hp) (x : Sz) (hlen : s.1.length ≤ 65536) (w0 w : World) (G : Im) (F : Hp) (hown : OB v s.1 B) (hs : Sat w0 w G (RnO pn v s.2 :: (B ++ F))) :
    Calls Try.prog 37 #[Pt pn 0, .agg #[I64 x.c, I64 x.l, I64 x.n]] w fun e w' => ∃ G' v' B', e = .returned (.tuple #[]) ∧ Im.le G G' ∧ OB v' (pstr s x).1 B' ∧ Sat w0 w' G' (RnO pn v' (pstr s x).2 :: (B' ++ F)) := by
  have l1 := pnum_len hlen x.c 1
  have l2 := pnum_len l1 x.l 3
  refine f_enter (vs := [_, _]) Try.func37 rfl Try.ntmps37 (by simp) hs ?_
  refine ww ?_
  refine c_cons (s_boxA [_, _, _] rfl rfl rfl fun b1 => ?_)
  refine c_freeze .head fun G1 hG1 k1 => ?_
  refine ww ?_
  refine c_cons (s_val (v_field 0 rfl (by kernel_rfl)) rfl rfl rfl ?_)
  refine c_cons (s_val (v_load rfl (Cel.imm k1 rfl) (by kernel_rfl)) rfl rfl rfl ?_)
  refine c_cons (s_call (xs := [_, _, _]) rfl rfl rfl rfl rfl rfl (by kernel_rfl) (fun w hs => rpnum_c pn _ s B x.c 1 hlen _ w _ _ hown hs) ?_)
  rintro e w' ⟨v1, B1, rfl, hown1, hs'⟩; refine a_ret ?_ hs'; clear hs'
  refine ww ?_
  refine c_cons (s_val (v_field 1 rfl (by kernel_rfl)) rfl rfl rfl ?_)
  refine c_cons (s_val (v_load rfl (Cel.imm k1 rfl) (by kernel_rfl)) rfl rfl rfl ?_)
  refine c_cons (s_call (xs := [_, _, _]) rfl rfl rfl rfl rfl rfl (by kernel_rfl) (fun w hs => rpnum_c pn _ _ B1 x.l 3 l1 _ w _ _ hown1 hs) ?_)
  rintro e w' ⟨v2, B2, rfl, hown2, hs'⟩; refine a_ret ?_ hs'; clear hs'
  refine ww ?_
  refine c_cons (s_val (v_field 2 rfl (by kernel_rfl)) rfl rfl rfl ?_)
  refine c_cons (s_val (v_load rfl (Cel.imm k1 rfl) (by kernel_rfl)) rfl rfl rfl ?_)
  refine c_cons (s_call (xs := [_, _, _]) rfl rfl rfl rfl rfl rfl (by kernel_rfl) (fun w hs => rpnum_c pn _ _ B2 x.n 4 l2 _ w _ _ hown2 hs) ?_)
  rintro e w' ⟨v3, B3, rfl, hown3, hs'⟩; refine a_ret ?_ hs'; clear hs'
  refine ww ?_
  exact f_end0 rfl (fun w hs => ⟨G1, v3, B3, rfl, hG1, hown3, hs⟩)

theorem rndput_c (pn : Nat) (v : Value) (s : Pn) (B : Hp) (x : Dl) (hlen : s.1.length ≤ 65536) (w0 w : World) (G : Im) (F : Hp) (hown : OB v s.1 B) (hs : Sat w0 w G (RnO pn v s.2 :: (B ++ F))) :
    Calls Try.prog 38 #[Pt pn 0, x.V] w fun e w' => ∃ G' v' B', e = .returned (.tuple #[]) ∧ Im.le G G' ∧ OB v' (pdl s x).1 B' ∧ Sat w0 w' G' (RnO pn v' (pdl s x).2 :: (B' ++ F)) := by
  have l1 := pnum_len hlen x.d 1
  have l2 := pnum_len l1 x.i 2
  have l3 := pnum_len l2 x.b 1
  have l4 := pdlH_len hlen x
  refine f_enter (vs := [_, _]) Try.func38 rfl Try.ntmps38 (by simp) hs ?_
  refine ww ?_
  refine c_cons (s_boxA [_, _, _, _, _, _, _, _, _, _, _, _, _, _] rfl rfl rfl fun b1 => ?_)
  refine c_freeze .head fun F1 hF1 k1 => ?_
  have k3 : F1 b1 = some (Cs (x.cells ++ []) 75) := k1
  refine ww ?_
  refine c_cons (s_val (v_field 0 rfl (by kernel_rfl)) rfl rfl rfl ?_)
  refine c_cons (s_val (v_load rfl (Cel.imm k1 rfl) (by kernel_rfl)) rfl rfl rfl ?_)
  refine c_cons (s_call (xs := [_, _, _]) rfl rfl rfl rfl rfl rfl (by kernel_rfl) (fun w hs => rpnum_c pn _ s B x.d 1 hlen _ w _ _ hown hs) ?_)
  rintro e w' ⟨v1, B1, rfl, hown1, hs'⟩; refine a_ret ?_ hs'; clear hs'
  refine ww ?_
  refine c_cons (s_val (v_field 1 rfl (by kernel_rfl)) rfl rfl rfl ?_)
  refine c_cons (s_val (v_load rfl (Cel.imm k1 rfl) (by kernel_rfl)) rfl rfl rfl ?_)
  refine c_cons (s_call (xs := [_, _, _]) rfl rfl rfl rfl rfl rfl (by kernel_rfl) (fun w hs => rpnum_c pn _ _ B1 x.i 2 l1 _ w _ _ hown1 hs) ?_)
  rintro e w' ⟨v2, B2, rfl, hown2, hs'⟩; refine a_ret ?_ hs'; clear hs'
  refine ww ?_
  refine c_cons (s_val (v_field 2 rfl (by kernel_rfl)) rfl rfl rfl ?_)
  refine c_cons (s_val (v_load rfl (Cel.imm k1 rfl) (by kernel_rfl)) rfl rfl rfl ?_)
  refine c_cons (s_call (xs := [_, _, _]) rfl rfl rfl rfl rfl rfl (by kernel_rfl) (fun w hs => rpnum_c pn _ _ B2 x.b 1 l2 _ w _ _ hown2 hs) ?_)
  rintro e w' ⟨v3, B3, rfl, hown3, hs'⟩; refine a_ret ?_ hs'; clear hs'
  refine ww ?_
  refine c_cons (s_val (v_field 3 rfl (by kernel_rfl)) rfl rfl rfl ?_)
  refine c_cons (s_val (v_load rfl (Cel.imm k1 rfl) (by kernel_rfl)) rfl rfl rfl ?_)
  refine c_cons (s_call (xs := [_, _, _]) rfl rfl rfl rfl rfl rfl (by kernel_rfl) (fun w hs => rpnum_c pn _ _ B3 x.s 2 l3 _ w _ _ hown3 hs) ?_)
  rintro e w' ⟨v4, B4, rfl, hown4, hs'⟩; refine a_ret ?_ hs'; clear hs'
  have e : pdl s x = (if x.d = 1 then pptr (pdlH s x) x.t else if x.d = 3 then pptr (pptr (pdlH s x) x.o) x.t else pdlH s x) := rfl
  change OB v4 (pdlH s x).1 B4 at hown4
  change Holds _ _ _ _ _ (RnO pn v4 (pdlH s x).2 :: (B4 ++ F)) _
  refine ww ?_
  refine c_cons (s_val (v_field 0 rfl (by kernel_rfl)) rfl rfl rfl ?_)
  refine c_cons (s_val (v_load rfl (Cel.imm k1 rfl) (by kernel_rfl)) rfl rfl rfl ?_)
  refine ww ?_
  refine c_cond_d rfl (fun c1 => ?_) (fun c1 => ?_)
  · -- then
    rw [if_pos c1] at e
    refine ww ?_
    refine c_cons (s_val (v_field 4 rfl (by kernel_rfl)) rfl rfl rfl ?_)
    refine c_cons (s_val (v_loadAgg (vs := [I64 x.t.c, I64 x.t.l, I64 x.t.n, I64 x.t.a, I64 x.t.k]) rfl (by kernel_rfl) (by kernel_rfl) rfl (fun j u hj => Cel.imm k3 (to_at x [] j u hj))) rfl rfl rfl ?_)
    refine c_cons (s_call (xs := [_, _]) rfl rfl rfl rfl rfl rfl (by kernel_rfl) (fun w hs => rnptr_c pn _ _ B4 x.t l4 _ w _ _ hown4 hs) ?_)
    rintro e w' ⟨v5, B5, rfl, hown5, hs'⟩; refine a_ret ?_ hs'; clear hs'
    refine ww ?_
    exact f_end0 rfl (fun w hs => ⟨F1, v5, B5, rfl, hF1, by rw [e]; exact hown5, by rw [e]; exact hs⟩)
  rw [if_neg c1] at e
  refine ww ?_
  refine c_cond_d rfl (fun c2 => ?_) (fun c2 => ?_)
  · -- then
    rw [if_pos c2] at e
    refine ww ?_
    refine c_cons (s_val (v_field 9 rfl (by kernel_rfl)) rfl rfl rfl ?_)
    refine c_cons (s_val (v_loadAgg (vs := [I64 x.o.c, I64 x.o.l, I64 x.o.n, I64 x.o.a, I64 x.o.k]) rfl (by kernel_rfl) (by kernel_rfl) rfl (fun j u hj => Cel.imm k3 (old_at x [] j u hj))) rfl rfl rfl ?_)
    refine c_cons (s_call (xs := [_, _]) rfl rfl rfl rfl rfl rfl (by kernel_rfl) (fun w hs => rnptr_c pn _ _ B4 x.o l4 _ w _ _ hown4 hs) ?_)
    rintro e w' ⟨v6, B6, rfl, hown6, hs'⟩; refine a_ret ?_ hs'; clear hs'
    refine ww ?_
    refine c_cons (s_val (v_field 4 rfl (by kernel_rfl)) rfl rfl rfl ?_)
    refine c_cons (s_val (v_loadAgg (vs := [I64 x.t.c, I64 x.t.l, I64 x.t.n, I64 x.t.a, I64 x.t.k]) rfl (by kernel_rfl) (by kernel_rfl) rfl (fun j u hj => Cel.imm k3 (to_at x [] j u hj))) rfl rfl rfl ?_)
    refine c_cons (s_call (xs := [_, _]) rfl rfl rfl rfl rfl rfl (by kernel_rfl) (fun w hs => rnptr_c pn _ _ B6 x.t (pptr_len l4 _) _ w _ _ hown6 hs) ?_)
    rintro e w' ⟨v7, B7, rfl, hown7, hs'⟩; refine a_ret ?_ hs'; clear hs'
    refine ww ?_
    exact f_end0 rfl (fun w hs => ⟨F1, v7, B7, rfl, hF1, by rw [e]; exact hown7, by rw [e]; exact hs⟩)
  rw [if_neg c2] at e
  refine ww ?_
  exact f_end0 rfl (fun w hs => ⟨F1, v4, B4, rfl, hF1, by rw [e]; exact hown4, by rw [e]; exact hs⟩)
end

section
open Go
set_option linter.unusedVariables false
set_option linter.unusedSimpArgs false
set_option maxHeartbeats 1600000
set_option maxRecDepth 4000
/-- A name, and what it names. -/
structure Ey where
  s : List UInt8
  i : Int
  d : Bool
structure Np where
  e : Int
  i : Int
  z : Int
  h : Int
  w : Int
  d : Bool
  es : List Ey
  m : List UInt8
abbrev Ey.cells (x : Ey) : List Value := [St x.s, I64 x.i, .bool x.d]
def EyC (G : Im) (c : List Value) (x : Ey) : Prop := c = x.cells
theorem EyC.up : Up EyC := fun _ _ _ _ _ h => h
abbrev Np.cells (q : Np) (ve vm : Value) : List Value := [I64 q.e, I64 q.i, I64 q.z, I64 q.h, I64 q.w, .bool q.d, ve, vm]
def pey (s : Pn) (x : Ey) : Pn := pbool (pnum (praw s x.s) x.i 2) x.d
def pnpH (s : Pn) (q : Np) : Pn := pbool (pnum (pnum (pnum (pnum (pnum s q.e 1) q.i 2) q.z 2) q.h 1) q.w 3) q.d
def pnp (q : Np) : Pn := praw (q.es.foldl pey (pnum (pnpH ([], 0) q) q.es.length 2)) q.m
/-- A reply's bytes, or why not. -/
def encP (q : Np) : Pn := if 4000 < q.es.length then ([], 3) else pnp q
theorem pey_len {s : Pn} (h : s.1.length ≤ 65536) (x : Ey) : (pey s x).1.length ≤ 65536 := pbool_len (pnum_len (praw_len h _) _ _) _
attribute [local irreducible] Code.wp wpList stepK Holds Val wpR Eff Eff0 Code.wpIn wpListIn stepI Exit.then Exit.inBlock bodyPost bodyPostM

theorem nenp1_c (q : Np) (hnl : ∀ x ∈ q.es, x.s.length ≤ 1000000) (hml : q.m.length ≤ 1000000) (b1 pn : Nat) (ve vm : Value) (w0 w : World) (G : Im) (F : Hp) (k1 : G b1 = some (Cs (q.cells ve vm) 52)) (hes : RecV 3 EyC G ve q.es) (hvm : EB G vm q.m) (hs : Sat w0 w G (PnO pn (.slice none 0 0) 0 :: F)) :
    Calls Try.prog 58 #[Pt pn 0, Pt b1 0] w fun e w' => ∃ G', Im.le G G' ∧ ((∃ v' B', e = .returned (.tuple #[]) ∧ encP q = pnp q ∧ (pnp q).1.length ≤ 65536 ∧ OB v' (pnp q).1 B' ∧ Sat w0 w' G' (PnO pn v' (pnp q).2 :: (B' ++ F))) ∨ ∃ c, e = .panicked (ngone c) ∧ c ≠ 0 ∧ encP q = ([], c) ∧ Sat w0 w' G' F) := by
  obtain ⟨ads, cps, rfl, hs1, hs2⟩ := hes.form
  unfold maxLen at hs2
  refine f_enter (vs := [_, _]) Try.func58 rfl Try.ntmps58 (by simp) hs ?_
  refine ww ?_
  refine c_cons (s_val (v_field 6 rfl (by kernel_rfl)) rfl rfl rfl ?_)
  refine c_cons (s_val (v_load rfl (Cel.imm k1 rfl) (by kernel_rfl)) rfl rfl rfl ?_)
  refine ww ?_
  by_cases h4 : q.es.length ≤ 4000
  rotate_left
  · have e3 : encP q = ([], 3) := if_pos (by omega)
    rw [decide_eq_false (show ¬ (q.es.length : Int) ≤ 4000 by omega)]
    refine c_cons (s_call (xs := [_, _]) rfl rfl rfl rfl rfl rfl (by kernel_rfl) (fun w hs => nmust_f 3 _ w _ _ hs) ?_)
    rintro e w' ⟨rfl, hs'⟩
    refine a_panic ?_ hs'; clear hs'
    repeat (first | refine x_then_panic ?_ | refine x_block_panic ?_)
    exact f_panic (fun w hs => ⟨_, Im.le_refl _, .inr ⟨3, rfl, by decide, e3, hs.sb⟩⟩)
  have e4 : encP q = pnp q := if_neg (by omega)
  rw [decide_eq_true (show (q.es.length : Int) ≤ 4000 by omega)]
  refine c_cons (s_call (xs := [_, _]) rfl rfl rfl rfl rfl rfl (by kernel_rfl) (fun w hs => nmust_t 3 _ w _ _ hs) ?_)
  rintro e w' ⟨rfl, hs'⟩; refine a_ret ?_ hs'; clear hs'
  change Holds _ _ _ _ _ (PnO pn (.slice none 0 0) (([], 0) : Pn).2 :: ([] ++ F)) _
  have l0 : (([], 0) : Pn).1.length ≤ 65536 := by simp
  have hown0 : OB (.slice none 0 0) (([], 0) : Pn).1 [] := Own.nil _ _
  refine ww ?_
  refine c_cons (s_val (v_field 0 rfl (by kernel_rfl)) rfl rfl rfl ?_)
  refine c_cons (s_val (v_load rfl (Cel.imm k1 rfl) (by kernel_rfl)) rfl rfl rfl ?_)
  have l1 := pnum_len l0 q.e 1
  refine c_cons (s_call (xs := [_, _, _]) rfl rfl rfl rfl rfl rfl (by kernel_rfl) (fun w hs => pnum_c pn _ _ _ q.e 1 l0 _ w _ _ hown0 hs) ?_)
  rintro e w' ⟨v1, B1, rfl, hown1, hs'⟩; refine a_ret ?_ hs'; clear hs'
  refine ww ?_
  refine c_cons (s_val (v_field 1 rfl (by kernel_rfl)) rfl rfl rfl ?_)
  refine c_cons (s_val (v_load rfl (Cel.imm k1 rfl) (by kernel_rfl)) rfl rfl rfl ?_)
  have l2 := pnum_len l1 q.i 2
  refine c_cons (s_call (xs := [_, _, _]) rfl rfl rfl rfl rfl rfl (by kernel_rfl) (fun w hs => pnum_c pn _ _ _ q.i 2 l1 _ w _ _ hown1 hs) ?_)
  rintro e w' ⟨v2, B2, rfl, hown2, hs'⟩; refine a_ret ?_ hs'; clear hs'
  refine ww ?_
  refine c_cons (s_val (v_field 2 rfl (by kernel_rfl)) rfl rfl rfl ?_)
  refine c_cons (s_val (v_load rfl (Cel.imm k1 rfl) (by kernel_rfl)) rfl rfl rfl ?_)
  have l3 := pnum_len l2 q.z 2
  refine c_cons (s_call (xs := [_, _, _]) rfl rfl rfl rfl rfl rfl (by kernel_rfl) (fun w hs => pnum_c pn _ _ _ q.z 2 l2 _ w _ _ hown2 hs) ?_)
  rintro e w' ⟨v3, B3, rfl, hown3, hs'⟩; refine a_ret ?_ hs'; clear hs'
  refine ww ?_
  refine c_cons (s_val (v_field 3 rfl (by kernel_rfl)) rfl rfl rfl ?_)
  refine c_cons (s_val (v_load rfl (Cel.imm k1 rfl) (by kernel_rfl)) rfl rfl rfl ?_)
  have l4 := pnum_len l3 q.h 1
  refine c_cons (s_call (xs := [_, _, _]) rfl rfl rfl rfl rfl rfl (by kernel_rfl) (fun w hs => pnum_c pn _ _ _ q.h 1 l3 _ w _ _ hown3 hs) ?_)
  rintro e w' ⟨v4, B4, rfl, hown4, hs'⟩; refine a_ret ?_ hs'; clear hs'
  refine ww ?_
  refine c_cons (s_val (v_field 4 rfl (by kernel_rfl)) rfl rfl rfl ?_)
  refine c_cons (s_val (v_load rfl (Cel.imm k1 rfl) (by kernel_rfl)) rfl rfl rfl ?_)
  have l5 := pnum_len l4 q.w 3
  refine c_cons (s_call (xs := [_, _, _]) rfl rfl rfl rfl rfl rfl (by kernel_rfl) (fun w hs => pnum_c pn _ _ _ q.w 3 l4 _ w _ _ hown4 hs) ?_)
  rintro e w' ⟨v5, B5, rfl, hown5, hs'⟩; refine a_ret ?_ hs'; clear hs'
  refine ww ?_
  refine c_cons (s_val (v_field 5 rfl (by kernel_rfl)) rfl rfl rfl ?_)
  refine c_cons (s_val (v_load rfl (Cel.imm k1 rfl) (by kernel_rfl)) rfl rfl rfl ?_)
  have l6 := pbool_len l5 q.d
  refine c_cons (s_call (xs := [_, _]) rfl rfl rfl rfl rfl rfl (by kernel_rfl) (fun w hs => pbool_c pn _ _ _ q.d l5 _ w _ _ hown5 hs) ?_)
  rintro e w' ⟨v6, B6, rfl, hown6, hs'⟩; refine a_ret ?_ hs'; clear hs'
  refine ww ?_
  obtain ⟨S, hS⟩ : ∃ S, S = pnpH ([], 0) q := ⟨_, rfl⟩
  change OB v6 (pnpH ([], 0) q).1 B6 at hown6
  change (pnpH ([], 0) q).1.length ≤ 65536 at l6
  clear hown0 hown1 hown2 hown3 hown4 hown5
  refine c_cons (s_val (v_field 6 rfl (by kernel_rfl)) rfl rfl rfl ?_)
  refine c_cons (s_val (v_load rfl (Cel.imm k1 rfl) (by kernel_rfl)) rfl rfl rfl ?_)
  refine ww ?_
  change Holds _ _ _ _ _ (PnO pn v6 (pnpH ([], 0) q).2 :: (B6 ++ F)) _
  rw [← hS] at hown6 l6 ⊢
  have l7 := pnum_len l6 q.es.length 2
  refine c_cons (s_call (xs := [_, _, _]) rfl rfl rfl rfl rfl rfl (by kernel_rfl) (fun w hs => pnum_c pn _ _ _ q.es.length 2 l6 _ w _ _ hown6 hs) ?_)
  rintro e w' ⟨v7, B7, rfl, hown7, hs'⟩; refine a_ret ?_ hs'; clear hs'
  refine ww ?_
  refine c_cons (s_val (v_field 6 rfl (by kernel_rfl)) rfl rfl rfl ?_)
  refine c_cons (s_val (v_load rfl (Cel.imm k1 rfl) (by kernel_rfl)) rfl rfl rfl ?_)
  refine ww ?_
  obtain ⟨P, hP⟩ : ∃ P, P = pnum S q.es.length 2 := ⟨_, rfl⟩
  rw [← hP] at hown7 l7 ⊢
  refine c_loop (α := Nat × Im × Value × Hp) (fun x => [(0, Pt pn 0), (1, Pt b1 0), (40, .slice ads q.es.length cps), (41, I64 q.es.length), (42, I64 x.1)]) (fun x => x.2.1) (fun x => PnO pn x.2.2.1 ((q.es.take x.1).foldl pey P).2 :: (x.2.2.2 ++ F)) (fun x => x.1 ≤ q.es.length ∧ Im.le G x.2.1 ∧ OB x.2.2.1 ((q.es.take x.1).foldl pey P).1 x.2.2.2) (fun x => q.es.length - x.1) (0, G, v7, B7) ⟨Nat.zero_le _, Im.le_refl _, hown7⟩ ?_ ?_
  · simp only [List.take_zero, List.foldl_nil]
    exact n_at ⟨rfl, rfl, rfl, rfl, rfl, trivial⟩ sbx
  rintro ⟨i, G1, v, B⟩ ⟨hi, hG1, hown⟩
  dsimp only at hi hG1 hown ⊢
  refine ww ?_
  refine c_cond_d rfl (fun c3 => ?_) (fun c3 => ?_)
  · -- then
    have hil : i < q.es.length := by omega
    have hfl := fold_len (f := pey) (fun s x h => pey_len h x) (q.es.take i) _ l7
    obtain ⟨blx, olx, clx, cellsx, hvex, hcex, _, hcelx⟩ := (hes.up EyC.up hG1).at (by decide) i (by omega)
    cases hvex
    have htk : (q.es.take (i + 1)).foldl pey P = pey ((q.es.take i).foldl pey P) q.es[i] := by
      rw [List.take_add_one, List.getElem?_eq_getElem hil, List.foldl_append]; rfl
    have hxl := hnl q.es[i] (List.getElem_mem hil)
    obtain ⟨x, hxx⟩ : ∃ x, x = q.es[i] := ⟨_, rfl⟩
    rw [← hxx] at hcex htk hxl
    unfold EyC at hcex
    subst hcex
    have hcx : ∀ (H : Hp) (f : Nat) u, x.cells[f]? = some u → Cel G1 H blx (olx + (i : Int).toNat * 3 + f) u := fun H f u h => by rw [Int.toNat_natCast]; exact hcelx H f u h
    refine ww ?_
    refine c_cons (s_val (v_index 3 rfl rfl (by kernel_rfl) (by omega)) rfl rfl rfl ?_)
    refine c_cons (s_val (v_loadAgg (vs := x.cells) rfl (by kernel_rfl) (by kernel_rfl) rfl (fun j u hj => hcx _ j u hj)) rfl rfl rfl ?_)
    refine c_cons (s_allocA [St [], I64 0, .bool false] (by kernel_rfl) rfl rfl fun b2 => ?_)
    refine c_cons (s_storeA (vs := x.cells) rfl rfl rfl .head (by kernel_rfl) (by simp [Value.oneCell']) rfl ?_)
    refine c_freeze .head fun G2 hG2 k2 => ?_
    refine ww ?_
    refine c_cons (s_val (v_field 0 rfl (by kernel_rfl)) rfl rfl rfl ?_)
    refine c_cons (s_val (v_load rfl (Cel.imm k2 rfl) (by kernel_rfl)) rfl rfl rfl ?_)
    obtain ⟨S1, hS1⟩ : ∃ S1, S1 = (q.es.take i).foldl pey P := ⟨_, rfl⟩
    rw [← hS1] at hown hfl htk ⊢
    have m1 := praw_len hfl x.s
    have m2 := pnum_len m1 x.i 2
    refine c_cons (s_call (xs := [_, _]) rfl rfl rfl rfl rfl rfl (by kernel_rfl) (fun w hs => ptext_c pn _ S1 _ x.s hfl hxl _ w _ _ hown hs) ?_)
    rintro e w' ⟨G3, w1, C1, rfl, hG3, hownA, hs'⟩; refine a_ret ?_ hs'; clear hs'
    replace k2 := hG3 _ _ k2
    refine ww ?_
    refine c_cons (s_val (v_field 1 rfl (by kernel_rfl)) rfl rfl rfl ?_)
    refine c_cons (s_val (v_load rfl (Cel.imm k2 rfl) (by kernel_rfl)) rfl rfl rfl ?_)
    refine c_cons (s_call (xs := [_, _, _]) rfl rfl rfl rfl rfl rfl (by kernel_rfl) (fun w hs => pnum_c pn _ _ _ x.i 2 m1 _ w _ _ hownA hs) ?_)
    rintro e w' ⟨w2, C2, rfl, hownB, hs'⟩; refine a_ret ?_ hs'; clear hs'
    refine ww ?_
    refine c_cons (s_val (v_field 2 rfl (by kernel_rfl)) rfl rfl rfl ?_)
    refine c_cons (s_val (v_load rfl (Cel.imm k2 rfl) (by kernel_rfl)) rfl rfl rfl ?_)
    refine c_cons (s_call (xs := [_, _]) rfl rfl rfl rfl rfl rfl (by kernel_rfl) (fun w hs => pbool_c pn _ _ _ x.d m2 _ w _ _ hownB hs) ?_)
    rintro e w' ⟨w3, C3, rfl, hownC, hs'⟩; refine a_ret ?_ hs'; clear hs'
    refine ww ?_
    change OB w3 (pey S1 x).1 C3 at hownC
    change Holds _ _ _ _ _ (PnO pn w3 (pey S1 x).2 :: (C3 ++ F)) _
    rw [← htk] at hownC ⊢
    exact n_next (x := (i, G1, v, B)) (i + 1, G3, w3, C3) ⟨by omega, hG1.trans (hG2.trans hG3), hownC⟩ (by dsimp only; omega) ⟨rfl, rfl, rfl, rfl, rfl, trivial⟩ rfl sbx
  have e : i = q.es.length := by omega
  subst e
  rw [List.take_length] at hown ⊢
  have l14 := fold_len (f := pey) (fun s x h => pey_len h x) q.es _ l7
  replace k1 := hG1 _ _ k1
  refine ww ?_
  refine c_cons (s_val (v_field 7 rfl (by kernel_rfl)) rfl rfl rfl ?_)
  refine c_cons (s_val (v_load rfl (Cel.imm k1 rfl) (by kernel_rfl)) rfl rfl rfl ?_)
  have l15 := praw_len l14 q.m
  refine c_cons (s_call (xs := [_, _]) rfl rfl rfl rfl rfl rfl (by kernel_rfl) (fun w hs => praw_c pn _ _ _ _ q.m l14 hml _ w _ _ hown (hvm.up (H := []) hG1) hs) ?_)
  rintro e w' ⟨v15, B15, rfl, hown15, hs'⟩; refine a_ret ?_ hs'; clear hs'
  have e5 : praw (q.es.foldl pey P) q.m = pnp q := by rw [hP, hS]; rfl
  rw [e5] at hown15 l15 ⊢
  refine ww ?_
  exact f_end0 rfl (fun w hs => ⟨G1, hG1, .inl ⟨v15, B15, rfl, e4, l15, hown15, hs⟩⟩)

theorem nenp_c (q : Np) (hnl : ∀ x ∈ q.es, x.s.length ≤ 1000000) (hml : q.m.length ≤ 1000000) (ve vm : Value) (w0 w : World) (G : Im) (F : Hp) (hes : RecV 3 EyC G ve q.es) (hvm : EB G vm q.m) (hs : Sat w0 w G F) :
    Calls Try.prog 16 #[.agg (q.cells ve vm).toArray] w fun e w' => ∃ G' u, e = .returned (.tuple #[u, I64 (encP q).2]) ∧ Im.le G G' ∧ SV G' [] u (outS (encP q)).length ((outS (encP q)).map B8) ∧ Sat w0 w' G' F := by
  obtain ⟨ads, cps, rfl, hs1, hs2⟩ := hes.form
  obtain ⟨adm, cpm, hvme⟩ := hvm.form
  subst hvme
  refine f_enter (vs := [_]) Try.func16 rfl Try.ntmps16 (by simp) hs ?_
  refine ww ?_
  refine c_cons (s_boxA [_, _, _, _, _, _, _, _] rfl rfl rfl fun b1 => ?_)
  refine c_freeze .head fun G1 hG1 k1 => ?_
  refine ww ?_
  refine c_cons (s_call (xs := [_]) rfl rfl rfl rfl rfl rfl (by kernel_rfl) (fun w hs => nwritten_c 58 #[Pt b1 0] (by kernel_rfl) (fun G' H' s => H' = [] ∧ s = encP q) (fun c G' H' => H' = [] ∧ encP q = ([], c) ∧ c ≠ 0) (fun _ _ _ _ _ h => h) _ w G1 [] _ hs (fun pn G2 F w hG2 hs => (nenp1_c q hnl hml b1 pn _ _ w0 w G2 F (hG2 _ _ k1) (hes.up EyC.up (hG1.trans hG2)) (hvm.up (H := []) (hG1.trans hG2)) hs).mono (by
    rintro e w' ⟨G', hG', ⟨v', B', rfl, e1, hl, hown, hs'⟩ | ⟨c, rfl, h0, e1, hs'⟩⟩
    · exact ⟨G', [], hG', .inl ⟨v', pnp q, B', hl, hown, hs', rfl, rfl, e1.symm⟩⟩
    · exact ⟨G', [], hG', .inr ⟨c, hs', rfl, rfl, e1, h0⟩⟩))) ?_)
  rintro e w' ⟨G', H', hG', hs', ⟨s, u, rfl, ⟨rfl, rfl⟩, hu⟩ | ⟨c, rfl, rfl, e1, h0⟩⟩
  · refine a_ret ?_ hs'; clear hs'
    refine ww ?_
    exact f_ret2 rfl rfl rfl (fun w hs => ⟨G', u, rfl, hG1.trans hG', hu, hs⟩)
  · refine a_ret ?_ hs'; clear hs'
    refine ww ?_
    have e2 : outS (encP q) = [] := by rw [e1]; exact if_neg h0
    exact f_ret2 rfl rfl rfl (fun w hs => ⟨G', .slice none 0 0, by rw [e1]; rfl, hG1.trans hG', by rw [e2]; exact SV.nil _ _, hs⟩)

theorem rnenp_c (q : Np) (hnl : ∀ x ∈ q.es, x.s.length ≤ 1000000) (hml : q.m.length ≤ 1000000) (ve vm : Value) (w0 w : World) (G : Im) (F : Hp) (hes : RecV 3 EyC G ve q.es) (hvm : EB G vm q.m) (hs : Sat w0 w G F) :
    Calls Try.prog 19 #[.agg (q.cells ve vm).toArray] w fun e w' => ∃ G' u, e = .returned (.tuple #[u, I64 (encP q).2]) ∧ Im.le G G' ∧ SV G' [] u (outS (encP q)).length ((outS (encP q)).map B8) ∧ Sat w0 w' G' F := by
  obtain ⟨ads, cps, rfl, hs1, hs2⟩ := hes.form
  unfold maxLen at hs2
  obtain ⟨adm, cpm, hvme⟩ := hvm.form
  subst hvme
  refine f_enter (vs := [_]) Try.func19 rfl Try.ntmps19 (by simp) hs ?_
  refine ww ?_
  refine c_cons (s_boxA [_, _, _, _, _, _, _, _] rfl rfl rfl fun b1 => ?_)
  refine c_freeze .head fun G1 hG1 k1 => ?_
  refine ww ?_
  refine c_cons (s_val (v_field 6 rfl (by kernel_rfl)) rfl rfl rfl ?_)
  refine c_cons (s_val (v_load rfl (Cel.imm k1 rfl) (by kernel_rfl)) rfl rfl rfl ?_)
  refine ww ?_
  refine c_cond_d rfl (fun c1 => ?_) (fun c1 => ?_)
  · have e3 : encP q = ([], 3) := if_pos (by omega)
    rw [e3]
    refine ww ?_
    exact f_ret2 rfl rfl rfl (fun w hs => ⟨G1, _, rfl, hG1, SV.nil _ _, hs⟩)
  have e4 : encP q = pnp q := if_neg (by omega)
  rw [e4]
  clear e4
  refine ww ?_
  refine c_cons (s_val (v_build (ps := []) #[.slice none 0 0, I64 0] rfl (by kernel_rfl)) rfl rfl rfl ?_)
  refine c_cons (s_boxA [_, _] rfl rfl rfl fun pn => ?_)
  change Holds _ _ _ _ _ (RnO pn (.slice none 0 0) (([], 0) : Pn).2 :: ([] ++ F)) _
  have l0 : (([], 0) : Pn).1.length ≤ 65536 := by simp
  have hown0 : OB (.slice none 0 0) (([], 0) : Pn).1 [] := Own.nil _ _
  refine ww ?_
  refine c_cons (s_val (v_field 0 rfl (by kernel_rfl)) rfl rfl rfl ?_)
  refine c_cons (s_val (v_load rfl (Cel.imm k1 rfl) (by kernel_rfl)) rfl rfl rfl ?_)
  have l1 := pnum_len l0 q.e 1
  refine c_cons (s_call (xs := [_, _, _]) rfl rfl rfl rfl rfl rfl (by kernel_rfl) (fun w hs => rpnum_c pn _ _ _ q.e 1 l0 _ w _ _ hown0 hs) ?_)
  rintro e w' ⟨v1, B1, rfl, hown1, hs'⟩; refine a_ret ?_ hs'; clear hs'
  refine ww ?_
  refine c_cons (s_val (v_field 1 rfl (by kernel_rfl)) rfl rfl rfl ?_)
  refine c_cons (s_val (v_load rfl (Cel.imm k1 rfl) (by kernel_rfl)) rfl rfl rfl ?_)
  have l2 := pnum_len l1 q.i 2
  refine c_cons (s_call (xs := [_, _, _]) rfl rfl rfl rfl rfl rfl (by kernel_rfl) (fun w hs => rpnum_c pn _ _ _ q.i 2 l1 _ w _ _ hown1 hs) ?_)
  rintro e w' ⟨v2, B2, rfl, hown2, hs'⟩; refine a_ret ?_ hs'; clear hs'
  refine ww ?_
  refine c_cons (s_val (v_field 2 rfl (by kernel_rfl)) rfl rfl rfl ?_)
  refine c_cons (s_val (v_load rfl (Cel.imm k1 rfl) (by kernel_rfl)) rfl rfl rfl ?_)
  have l3 := pnum_len l2 q.z 2
  refine c_cons (s_call (xs := [_, _, _]) rfl rfl rfl rfl rfl rfl (by kernel_rfl) (fun w hs => rpnum_c pn _ _ _ q.z 2 l2 _ w _ _ hown2 hs) ?_)
  rintro e w' ⟨v3, B3, rfl, hown3, hs'⟩; refine a_ret ?_ hs'; clear hs'
  refine ww ?_
  refine c_cons (s_val (v_field 3 rfl (by kernel_rfl)) rfl rfl rfl ?_)
  refine c_cons (s_val (v_load rfl (Cel.imm k1 rfl) (by kernel_rfl)) rfl rfl rfl ?_)
  have l4 := pnum_len l3 q.h 1
  refine c_cons (s_call (xs := [_, _, _]) rfl rfl rfl rfl rfl rfl (by kernel_rfl) (fun w hs => rpnum_c pn _ _ _ q.h 1 l3 _ w _ _ hown3 hs) ?_)
  rintro e w' ⟨v4, B4, rfl, hown4, hs'⟩; refine a_ret ?_ hs'; clear hs'
  refine ww ?_
  refine c_cons (s_val (v_field 4 rfl (by kernel_rfl)) rfl rfl rfl ?_)
  refine c_cons (s_val (v_load rfl (Cel.imm k1 rfl) (by kernel_rfl)) rfl rfl rfl ?_)
  have l5 := pnum_len l4 q.w 3
  refine c_cons (s_call (xs := [_, _, _]) rfl rfl rfl rfl rfl rfl (by kernel_rfl) (fun w hs => rpnum_c pn _ _ _ q.w 3 l4 _ w _ _ hown4 hs) ?_)
  rintro e w' ⟨v5, B5, rfl, hown5, hs'⟩; refine a_ret ?_ hs'; clear hs'
  refine ww ?_
  refine c_cons (s_val (v_field 5 rfl (by kernel_rfl)) rfl rfl rfl ?_)
  refine c_cons (s_val (v_load rfl (Cel.imm k1 rfl) (by kernel_rfl)) rfl rfl rfl ?_)
  have l6 := pbool_len l5 q.d
  refine c_cons (s_call (xs := [_, _]) rfl rfl rfl rfl rfl rfl (by kernel_rfl) (fun w hs => rpbool_c pn _ _ _ q.d l5 _ w _ _ hown5 hs) ?_)
  rintro e w' ⟨v6, B6, rfl, hown6, hs'⟩; refine a_ret ?_ hs'; clear hs'
  refine ww ?_
  obtain ⟨S, hS⟩ : ∃ S, S = pnpH ([], 0) q := ⟨_, rfl⟩
  change OB v6 (pnpH ([], 0) q).1 B6 at hown6
  change (pnpH ([], 0) q).1.length ≤ 65536 at l6
  clear hown0 hown1 hown2 hown3 hown4 hown5
  refine c_cons (s_val (v_field 6 rfl (by kernel_rfl)) rfl rfl rfl ?_)
  refine c_cons (s_val (v_load rfl (Cel.imm k1 rfl) (by kernel_rfl)) rfl rfl rfl ?_)
  refine ww ?_
  change Holds _ _ _ _ _ (RnO pn v6 (pnpH ([], 0) q).2 :: (B6 ++ F)) _
  rw [← hS] at hown6 l6 ⊢
  have l7 := pnum_len l6 q.es.length 2
  refine c_cons (s_call (xs := [_, _, _]) rfl rfl rfl rfl rfl rfl (by kernel_rfl) (fun w hs => rpnum_c pn _ _ _ q.es.length 2 l6 _ w _ _ hown6 hs) ?_)
  rintro e w' ⟨v7, B7, rfl, hown7, hs'⟩; refine a_ret ?_ hs'; clear hs'
  refine ww ?_
  obtain ⟨P, hP⟩ : ∃ P, P = pnum S q.es.length 2 := ⟨_, rfl⟩
  rw [← hP] at hown7 l7 ⊢
  refine c_loop (α := Nat × Im × Value × Hp) (fun x => [(1, Pt b1 0), (4, Pt pn 0), (5, I64 x.1)]) (fun x => x.2.1) (fun x => RnO pn x.2.2.1 ((q.es.take x.1).foldl pey P).2 :: (x.2.2.2 ++ F)) (fun x => x.1 ≤ q.es.length ∧ Im.le G1 x.2.1 ∧ OB x.2.2.1 ((q.es.take x.1).foldl pey P).1 x.2.2.2) (fun x => q.es.length - x.1) (0, G1, v7, B7) ⟨Nat.zero_le _, Im.le_refl _, hown7⟩ ?_ ?_
  · simp only [List.take_zero, List.foldl_nil]
    exact n_at ⟨rfl, rfl, rfl, trivial⟩ sbx
  rintro ⟨i, G2, v, B⟩ ⟨hi, hG2, hown⟩
  dsimp only at hi hG2 hown ⊢
  have k2 := hG2 _ _ k1
  refine ww ?_
  refine c_cons (s_val (v_field 6 rfl (by kernel_rfl)) rfl rfl rfl ?_)
  refine c_cons (s_val (v_load rfl (Cel.imm k2 rfl) (by kernel_rfl)) rfl rfl rfl ?_)
  refine ww ?_
  refine c_cond_d rfl (fun c7 => ?_) (fun c7 => ?_)
  · -- then
    have hil : i < q.es.length := by omega
    have hfl := fold_len (f := pey) (fun s x h => pey_len h x) (q.es.take i) _ l7
    obtain ⟨blx, olx, clx, cellsx, hvex, hcex, _, hcelx⟩ := (hes.up EyC.up (hG1.trans hG2)).at (by decide) i (by omega)
    cases hvex
    have htk : (q.es.take (i + 1)).foldl pey P = pey ((q.es.take i).foldl pey P) q.es[i] := by
      rw [List.take_add_one, List.getElem?_eq_getElem hil, List.foldl_append]; rfl
    have hxl := hnl q.es[i] (List.getElem_mem hil)
    obtain ⟨x, hxx⟩ : ∃ x, x = q.es[i] := ⟨_, rfl⟩
    rw [← hxx] at hcex htk hxl
    unfold EyC at hcex
    subst hcex
    have hcx : ∀ (G3 : Im) (hG3 : Im.le G2 G3) (H : Hp) (f : Nat) u, x.cells[f]? = some u → Cel G3 H blx (olx + (i : Int).toNat * 3 + f) u := fun G3 hG3 H f u h => by rw [Int.toNat_natCast]; exact (hcelx H f u h).mono hG3 (fun _ h => h)
    obtain ⟨S1, hS1⟩ : ∃ S1, S1 = (q.es.take i).foldl pey P := ⟨_, rfl⟩
    rw [← hS1] at hown hfl htk ⊢
    have m1 := praw_len hfl x.s
    have m2 := pnum_len m1 x.i 2
    refine ww ?_
    refine c_cons (s_val (v_field 6 rfl (by kernel_rfl)) rfl rfl rfl ?_)
    refine c_cons (s_val (v_load rfl (Cel.imm k2 rfl) (by kernel_rfl)) rfl rfl rfl ?_)
    refine ww ?_
    refine c_cons (s_val (v_index 3 rfl rfl (by kernel_rfl) (by omega)) rfl rfl rfl ?_)
    refine c_cons (s_val (v_field 0 rfl (by kernel_rfl)) rfl rfl rfl ?_)
    refine c_cons (s_val (v_load rfl (hcx _ (Im.le_refl _) _ 0 _ rfl) (by kernel_rfl)) rfl rfl rfl ?_)
    refine c_cons (s_strb 5 rfl (by kernel_rfl) (by kernel_rfl) (by unfold maxLen; omega) rfl rfl fun G3 us hG3 hus => ?_)
    replace k2 := hG3 _ _ k2
    refine c_cons (s_call (xs := [_, _]) rfl rfl rfl rfl rfl rfl (by kernel_rfl) (fun w hs => rpraw_c pn _ S1 _ _ x.s hfl hxl _ w _ _ hown hus hs) ?_)
    rintro e w' ⟨w1, C1, rfl, hownA, hs'⟩; refine a_ret ?_ hs'; clear hs'
    refine ww ?_
    refine c_cons (s_val (v_field 6 rfl (by kernel_rfl)) rfl rfl rfl ?_)
    refine c_cons (s_val (v_load rfl (Cel.imm k2 rfl) (by kernel_rfl)) rfl rfl rfl ?_)
    refine ww ?_
    refine c_cons (s_val (v_index 3 rfl rfl (by kernel_rfl) (by omega)) rfl rfl rfl ?_)
    refine c_cons (s_val (v_field 1 rfl (by kernel_rfl)) rfl rfl rfl ?_)
    refine c_cons (s_val (v_load rfl (hcx _ hG3 _ 1 _ rfl) (by kernel_rfl)) rfl rfl rfl ?_)
    refine c_cons (s_call (xs := [_, _, _]) rfl rfl rfl rfl rfl rfl (by kernel_rfl) (fun w hs => rpnum_c pn _ _ _ x.i 2 m1 _ w _ _ hownA hs) ?_)
    rintro e w' ⟨w2, C2, rfl, hownB, hs'⟩; refine a_ret ?_ hs'; clear hs'
    refine ww ?_
    refine c_cons (s_val (v_field 6 rfl (by kernel_rfl)) rfl rfl rfl ?_)
    refine c_cons (s_val (v_load rfl (Cel.imm k2 rfl) (by kernel_rfl)) rfl rfl rfl ?_)
    refine ww ?_
    refine c_cons (s_val (v_index 3 rfl rfl (by kernel_rfl) (by omega)) rfl rfl rfl ?_)
    refine c_cons (s_val (v_field 2 rfl (by kernel_rfl)) rfl rfl rfl ?_)
    refine c_cons (s_val (v_load rfl (hcx _ hG3 _ 2 _ rfl) (by kernel_rfl)) rfl rfl rfl ?_)
    refine c_cons (s_call (xs := [_, _]) rfl rfl rfl rfl rfl rfl (by kernel_rfl) (fun w hs => rpbool_c pn _ _ _ x.d m2 _ w _ _ hownB hs) ?_)
    rintro e w' ⟨w3, C3, rfl, hownC, hs'⟩; refine a_ret ?_ hs'; clear hs'
    refine ww ?_
    change OB w3 (pey S1 x).1 C3 at hownC
    change Holds _ _ _ _ _ (RnO pn w3 (pey S1 x).2 :: (C3 ++ F)) _
    rw [← htk] at hownC ⊢
    exact n_next (x := (i, G2, v, B)) (i + 1, G3, w3, C3) ⟨by omega, hG2.trans hG3, hownC⟩ (by dsimp only; omega) ⟨rfl, rfl, rfl, trivial⟩ rfl sbx
  have e : i = q.es.length := by omega
  subst e
  rw [List.take_length] at hown ⊢
  have l14 := fold_len (f := pey) (fun s x h => pey_len h x) q.es _ l7
  refine ww ?_
  refine c_cons (s_val (v_field 7 rfl (by kernel_rfl)) rfl rfl rfl ?_)
  refine c_cons (s_val (v_load rfl (Cel.imm k2 rfl) (by kernel_rfl)) rfl rfl rfl ?_)
  have l15 := praw_len l14 q.m
  refine c_cons (s_call (xs := [_, _]) rfl rfl rfl rfl rfl rfl (by kernel_rfl) (fun w hs => rpraw_c pn _ _ _ _ q.m l14 hml _ w _ _ hown (hvm.up (H := []) (hG1.trans hG2)) hs) ?_)
  rintro e w' ⟨v15, B15, rfl, hown15, hs'⟩; refine a_ret ?_ hs'; clear hs'
  have e5 : praw (q.es.foldl pey P) q.m = pnp q := by rw [hP, hS]; rfl
  rw [e5] at hown15 l15 ⊢
  generalize pnp q = s at hown15 l15 ⊢
  refine ww ?_
  refine c_freezeO hown15 (Chunk.tail Chunk.head) fun G5 hG5 hsv5 => ?_
  refine c_cons (s_call (xs := [_]) rfl rfl rfl rfl rfl rfl (by kernel_rfl) (fun w hs => rpbytes_c pn _ s l15 _ w _ _ hsv5 hs) ?_)
  rintro e w' ⟨G6, u6, rfl, hG6, hu6, hs'⟩; refine a_ret ?_ hs'; clear hs'
  refine ww ?_
  have e6 : (if s.2 ≠ 0 then [] else s.1) = outS s := by
    unfold outS
    by_cases h : s.2 = 0
    · rw [if_pos h, if_neg (fun k => k h)]
    · rw [if_neg h, if_pos h]
  rw [e6] at hu6
  exact f_ret2 rfl rfl rfl (fun w hs => ⟨G6, _, rfl, hG1.trans (hG2.trans (hG5.trans hG6)), hu6, hs.tl⟩)
end

section
open Go
set_option linter.unusedVariables false
section
variable {α β : Type}
/-- A step: a number, a text, a yes or no is read and put. -/
def stN (i : Int) (f : α → Int → α) (t : α × List UInt8 × Int) : α × List UInt8 × Int := (f t.1 (eNum t.2.1 t.2.2 i).1, (eNum t.2.1 t.2.2 i).2)
def stR (f : α → List UInt8 → α) (t : α × List UInt8 × Int) : α × List UInt8 × Int := (f t.1 (eRaw t.2.1 t.2.2 65535).1, (eRaw t.2.1 t.2.2 65535).2)
def stB (f : α → Bool → α) (t : α × List UInt8 × Int) : α × List UInt8 × Int := (f t.1 (eBool t.2.1 t.2.2).1, (eBool t.2.1 t.2.2).2)
theorem eNum_keep {xs : List UInt8} {bad i : Int} (h : bad ≠ 0) : eNum xs bad i = (0, xs, bad) := if_pos h
theorem stN_keep {i : Int} {f : α → Int → α} {t : α × List UInt8 × Int} (h : t.2.2 ≠ 0) : (stN i f t).2.2 = t.2.2 := by unfold stN eNum; rw [if_pos h]
theorem stR_keep {f : α → List UInt8 → α} {t : α × List UInt8 × Int} (h : t.2.2 ≠ 0) : (stR f t).2.2 = t.2.2 := by unfold stR eRaw; rw [if_pos h]
theorem stB_keep {f : α → Bool → α} {t : α × List UInt8 × Int} (h : t.2.2 ≠ 0) : (stB f t).2.2 = t.2.2 := by unfold stB eBool; rw [if_pos h]
theorem eNum_pos (xs : List UInt8) (bad i : Int) : 0 ≤ (eNum xs bad i).1 := by
  unfold eNum
  split
  · exact Int.le_refl 0
  · unfold rNum
    split
    · exact Int.le_refl 0
    · split
      · exact Int.le_refl 0
      · exact Int.natCast_nonneg _
theorem eNum_bad0 {xs : List UInt8} {bad i : Int} (h : (eNum xs bad i).2.2 ≠ 0) : (eNum xs bad i).1 = 0 := by
  unfold eNum at h ⊢
  split at h
  · rename_i hb; rw [if_pos hb]
  · rename_i hb
    rw [if_neg hb]
    unfold rNum at h ⊢
    split at h
    · rename_i h1; rw [if_pos h1]
    · rename_i h1
      rw [if_neg h1]
      split at h
      · rename_i h2; rw [if_pos h2]
      · exact absurd rfl h
theorem eNum_2 (xs : List UInt8) (bad : Int) : (eNum xs bad 2).1 < 65536 := by
  unfold eNum
  split
  · show (0 : Int) < 65536; decide
  unfold rNum
  split
  · show (0 : Int) < 65536; decide
  · split
    · show (0 : Int) < 65536; decide
    · have h1 := num_lt (xs.take (2 : Int).toNat)
      have h2 : (xs.take (2 : Int).toNat).length ≤ 2 := by rw [List.length_take]; exact Nat.min_le_left _ _
      have h3 : 256 ^ (xs.take (2 : Int).toNat).length ≤ 256 ^ 2 := Nat.pow_le_pow_right (by decide) h2
      have h4 : num (xs.take (2 : Int).toNat) < 65536 := Nat.lt_of_lt_of_le h1 h3
      show ((num (xs.take (2 : Int).toNat) : Nat) : Int) < 65536
      omega
/-! Rows of one kind, read one behind the other. -/
variable (get : List UInt8 → α × List UInt8 × Int)
def gAfter : Nat → List UInt8 → List UInt8
  | 0, xs => xs
  | j + 1, xs => gAfter j (get xs).2.1
def gRedd : Nat → List UInt8 → List α
  | 0, _ => []
  | j + 1, xs => (get xs).1 :: gRedd j (get xs).2.1
def gGood : Nat → List UInt8 → Prop
  | 0, _ => True
  | j + 1, xs => (get xs).2.2 = 0 ∧ gGood j (get xs).2.1
def rdN : Nat → List UInt8 → List α × List UInt8 × Int
  | 0, xs => ([], xs, 0)
  | n + 1, xs => if (get xs).2.2 ≠ 0 then ([], (get xs).2.1, (get xs).2.2) else ((get xs).1 :: (rdN n (get xs).2.1).1, (rdN n (get xs).2.1).2)
theorem gAfter_snoc : ∀ (j : Nat) (xs : List UInt8), gAfter get (j + 1) xs = (get (gAfter get j xs)).2.1
  | 0, xs => rfl
  | j + 1, xs => gAfter_snoc j (get xs).2.1
theorem gRedd_snoc : ∀ (j : Nat) (xs : List UInt8), gRedd get (j + 1) xs = gRedd get j xs ++ [(get (gAfter get j xs)).1]
  | 0, xs => rfl
  | j + 1, xs => by
    show (get xs).1 :: gRedd get (j + 1) (get xs).2.1 = (get xs).1 :: gRedd get j (get xs).2.1 ++ _
    rw [gRedd_snoc j]; rfl
theorem gRedd_len : ∀ (j : Nat) (xs : List UInt8), (gRedd get j xs).length = j
  | 0, _ => rfl
  | j + 1, xs => by show (gRedd get j (get xs).2.1).length + 1 = j + 1; rw [gRedd_len j]
theorem gGood_snoc : ∀ (j : Nat) (xs : List UInt8), gGood get j xs → (get (gAfter get j xs)).2.2 = 0 → gGood get (j + 1) xs
  | 0, xs, _, h => ⟨h, trivial⟩
  | j + 1, xs, h, k => ⟨h.1, gGood_snoc j (get xs).2.1 h.2 k⟩
theorem rdN_good : ∀ (j : Nat) (xs : List UInt8), gGood get j xs → rdN get j xs = (gRedd get j xs, gAfter get j xs, 0)
  | 0, xs, _ => rfl
  | j + 1, xs, h => by
    unfold rdN
    rw [if_neg (by rw [h.1]; decide), rdN_good j _ h.2]; rfl
theorem rdN_bad : ∀ (j n : Nat) (xs : List UInt8), gGood get j xs → j < n → (get (gAfter get j xs)).2.2 ≠ 0 → (rdN get n xs).2.2 = (get (gAfter get j xs)).2.2
  | 0, n + 1, xs, _, _, h => by
    have h' : (get xs).2.2 ≠ 0 := h
    unfold rdN; rw [if_pos h']; rfl
  | j + 1, n + 1, xs, h, hj, k => by
    unfold rdN
    rw [if_neg (by rw [h.1]; decide)]
    exact rdN_bad j n _ h.2 (by omega) k
variable {get}
/-- A count, and what comes of it. -/
def dqC (z : β) (k : Int → List UInt8 → β × Int) (n : Int × List UInt8 × Int) : β × Int := if n.2.2 ≠ 0 then (z, n.2.2) else if 4000 < n.1 then (z, 3) else k n.1 n.2.1
theorem dqC_bad {z : β} {k : Int → List UInt8 → β × Int} {n : Int × List UInt8 × Int} (h : n.2.2 ≠ 0) : dqC z k n = (z, n.2.2) := if_pos h
theorem dqC_long {z : β} {k : Int → List UInt8 → β × Int} {n : Int × List UInt8 × Int} (h : n.2.2 = 0) (h2 : 4000 < n.1) : dqC z k n = (z, 3) := by unfold dqC; rw [if_neg (by omega), if_pos h2]
theorem dqC_ok {z : β} {k : Int → List UInt8 → β × Int} {n : Int × List UInt8 × Int} (h : n.2.2 = 0) (h2 : ¬ 4000 < n.1) : dqC z k n = k n.1 n.2.1 := by unfold dqC; rw [if_neg (by omega), if_neg h2]
/-- So many rows, and what comes of them. -/
def dqR (z : β) (get : List UInt8 → α × List UInt8 × Int) (k : List α → List UInt8 → β × Int) (n : Int) (xs : List UInt8) : β × Int := if (rdN get n.toNat xs).2.2 ≠ 0 then (z, (rdN get n.toNat xs).2.2) else k (rdN get n.toNat xs).1 (rdN get n.toNat xs).2.1
theorem dqR_bad {z : β} {k : List α → List UInt8 → β × Int} {n : Int} {xs : List UInt8} (j : Nat) (hg : gGood get j xs) (hj : (j : Int) < n) (hb : (get (gAfter get j xs)).2.2 ≠ 0) : dqR z get k n xs = (z, (get (gAfter get j xs)).2.2) := by
  have hr := rdN_bad get j n.toNat xs hg (by omega) hb
  unfold dqR
  rw [if_pos (by rw [hr]; exact hb), hr]
theorem dqR_all {z : β} {k : List α → List UInt8 → β × Int} {n : Int} {xs : List UInt8} (j : Nat) (hj : n = j) (hg : gGood get j xs) : dqR z get k n xs = k (gRedd get j xs) (gAfter get j xs) := by
  have hr := rdN_good get j xs hg
  subst hj
  unfold dqR
  rw [Int.toNat_natCast, hr, if_neg (by simp)]
end
/-! Requests -/
def zSz : Sz := ⟨0, 0, 0, 0⟩
def gStr (xs : List UInt8) (bad : Int) : Sz × List UInt8 × Int := stN 4 (fun q x => { q with n := x }) (stN 3 (fun q x => { q with l := x }) (stN 1 (fun q x => { q with c := x }) (zSz, xs, bad)))
def getSz (xs : List UInt8) : Sz × List UInt8 × Int := stN 2 (fun q x => { q with z := x }) (gStr xs 0)
def zNq : Nq := ⟨0, 0, 0, 0, [], [], false, false, false, 0, 0, 0, [], []⟩
def fC (q : Nq) (x : Int) : Nq := { q with c := x }
def fL (q : Nq) (x : Int) : Nq := { q with l := x }
def fS (q : Nq) (x : Int) : Nq := { q with s := x }
def fD (q : Nq) (x : Int) : Nq := { q with d := x }
def fP (q : Nq) (x : List UInt8) : Nq := { q with p := x }
def fT (q : Nq) (x : List UInt8) : Nq := { q with t := x }
def fA (q : Nq) (x : Bool) : Nq := { q with a := x }
def fB (q : Nq) (x : Bool) : Nq := { q with b := x }
def fE (q : Nq) (x : Bool) : Nq := { q with e := x }
def fH (q : Nq) (x : Int) : Nq := { q with h := x }
def fX (q : Nq) (x : Int) : Nq := { q with x := x }
def fW (q : Nq) (x : Int) : Nq := { q with w := x }
abbrev Tq := Nq × List UInt8 × Int
def hdT (xs : List UInt8) : Tq := stN 1 fD (stN 4 fS (stN 3 fL (stN 1 fC (zNq, xs, 0))))
def midT (t : Tq) : Tq := stN 3 fW (stN 4 fX (stN 1 fH (stB fE (stB fB (stB fA (stR fT (stR fP t)))))))
theorem midT_keep {t : Tq} (h : t.2.2 ≠ 0) : (midT t).2.2 = t.2.2 := by
  have h1 : (stR fP t).2.2 = t.2.2 := stR_keep h
  have h2 : (stR fT (stR fP t)).2.2 = t.2.2 := (stR_keep (by rw [h1]; exact h)).trans h1
  have h3 : (stB fA (stR fT (stR fP t))).2.2 = t.2.2 := (stB_keep (by rw [h2]; exact h)).trans h2
  have h4 : (stB fB (stB fA (stR fT (stR fP t)))).2.2 = t.2.2 := (stB_keep (by rw [h3]; exact h)).trans h3
  have h5 : (stB fE (stB fB (stB fA (stR fT (stR fP t))))).2.2 = t.2.2 := (stB_keep (by rw [h4]; exact h)).trans h4
  have h6 : (stN 1 fH (stB fE (stB fB (stB fA (stR fT (stR fP t)))))).2.2 = t.2.2 := (stN_keep (by rw [h5]; exact h)).trans h5
  have h7 : (stN 4 fX (stN 1 fH (stB fE (stB fB (stB fA (stR fT (stR fP t))))))).2.2 = t.2.2 := (stN_keep (by rw [h6]; exact h)).trans h6
  exact (stN_keep (by rw [h7]; exact h)).trans h7
/-- Behind all: whether something is left. -/
def dqE (q : Nq) (l : List Dl) (xs : List UInt8) : Nq × Int := if 0 < xs.length then (zNq, 3) else ({ q with ds := l }, 0)
def dqS (q : Nq) (l : List Sz) (xs : List UInt8) : Nq × Int := dqC zNq (dqR zNq getDl (dqE { q with ss := l })) (eNum xs 0 2)
def dqM (t : Tq) : Nq × Int := dqC zNq (dqR zNq getSz (dqS t.1)) (eNum t.2.1 t.2.2 2)
/-- The request that bytes are, or what is wrong first. -/
def decQ (xs : List UInt8) : Nq × Int := if (hdT xs).2.2 ≠ 0 then (zNq, (hdT xs).2.2) else if ¬ (1 ≤ (hdT xs).1.d ∧ (hdT xs).1.d ≤ 11) then (zNq, 4) else dqM (midT (hdT xs))
theorem decQ_bad {xs : List UInt8} (h : (hdT xs).2.2 ≠ 0) : decQ xs = (zNq, (hdT xs).2.2) := if_pos h
theorem decQ_kind {xs : List UInt8} (h : (hdT xs).2.2 = 0) (h2 : ¬ (1 ≤ (hdT xs).1.d ∧ (hdT xs).1.d ≤ 11)) : decQ xs = (zNq, 4) := by unfold decQ; rw [if_neg (by omega), if_pos h2]
theorem decQ_ok {xs : List UInt8} (h : (hdT xs).2.2 = 0) (h2 : 1 ≤ (hdT xs).1.d ∧ (hdT xs).1.d ≤ 11) : decQ xs = dqM (midT (hdT xs)) := by unfold decQ; rw [if_neg (by omega), if_neg (fun k => k h2)]
end

section
open Go
set_option linter.unusedVariables false
set_option linter.unusedSimpArgs false
set_option maxHeartbeats 1600000
attribute [local irreducible] Code.wp wpList stepK Holds Val wpR Eff Eff0 Code.wpIn wpListIn stepI Exit.then Exit.inBlock bodyPost bodyPostM

theorem getTo_c (hb ep : Nat) (x : Dl) (pv v : Value) (bad : Int) (xs : List UInt8) (w0 w : World) (G : Im) (F : Hp) (hv : EB G v xs) (hs : Sat w0 w G (HdO hb x pv (Pt ep 0) :: EyO ep v bad :: F)) :
    Calls Try.prog 92 #[Pt hb 0] w fun e w' => ∃ v', e = .returned (.tuple #[]) ∧ EB G v' (getP xs bad).2.1 ∧ Sat w0 w' G (HdO hb { x with t := (getP xs bad).1 } pv (Pt ep 0) :: EyO ep v' (getP xs bad).2.2 :: F) := by
  refine f_enter (vs := [_]) Try.func92 rfl Try.ntmps92 (by simp) hs ?_
  refine ww ?_
  refine c_cons (s_val (v_field 15 rfl (by kernel_rfl)) rfl rfl rfl ?_)
  refine c_cons (s_val (v_load rfl (Cel.head rfl) (by kernel_rfl)) rfl rfl rfl ?_)
  refine c_sub (EyO ep v bad :: HdO hb x pv (Pt ep 0) :: F) sbx ?_
  refine c_cons (s_call (xs := [_]) rfl rfl rfl rfl rfl rfl (by kernel_rfl) (fun w hs => getPtr_c ep v bad xs _ w _ _ hv hs) ?_)
  generalize getP xs bad = a
  rintro e w' ⟨v1, rfl, hv1, hs'⟩; refine a_ret ?_ hs'; clear hs'
  refine ww ?_
  refine c_cons (s_val (v_field 0 rfl (by kernel_rfl)) rfl rfl rfl ?_)
  refine c_cons (s_val (v_field 4 rfl (by kernel_rfl)) rfl rfl rfl ?_)
  refine c_cons (s_storeAt (vs := [I64 a.1.c, I64 a.1.l, I64 a.1.n, I64 a.1.a, I64 a.1.k]) rfl rfl rfl (.tail .head) (by kernel_rfl) (by simp [Value.oneCell']) (by simp) ?_)
  change Holds _ _ _ _ _ (HdO hb { x with t := a.1 } pv (Pt ep 0) :: EyO ep v1 a.2.2 :: F) _
  refine ww ?_
  exact f_end0 rfl (fun w hs => ⟨v1, rfl, hv1, hs⟩)

theorem getBoth_c (hb ep : Nat) (x : Dl) (pv v : Value) (bad : Int) (xs : List UInt8) (w0 w : World) (G : Im) (F : Hp) (hv : EB G v xs) (hs : Sat w0 w G (HdO hb x pv (Pt ep 0) :: EyO ep v bad :: F)) :
    Calls Try.prog 94 #[Pt hb 0] w fun e w' => ∃ v', e = .returned (.tuple #[]) ∧ EB G v' (getP (getP xs bad).2.1 (getP xs bad).2.2).2.1 ∧
      Sat w0 w' G (HdO hb { x with o := (getP xs bad).1, t := (getP (getP xs bad).2.1 (getP xs bad).2.2).1 } pv (Pt ep 0) :: EyO ep v' (getP (getP xs bad).2.1 (getP xs bad).2.2).2.2 :: F) := by
  refine f_enter (vs := [_]) Try.func94 rfl Try.ntmps94 (by simp) hs ?_
  refine ww ?_
  refine c_cons (s_val (v_field 15 rfl (by kernel_rfl)) rfl rfl rfl ?_)
  refine c_cons (s_val (v_load rfl (Cel.head rfl) (by kernel_rfl)) rfl rfl rfl ?_)
  refine c_sub (EyO ep v bad :: HdO hb x pv (Pt ep 0) :: F) sbx ?_
  refine c_cons (s_call (xs := [_]) rfl rfl rfl rfl rfl rfl (by kernel_rfl) (fun w hs => getPtr_c ep v bad xs _ w _ _ hv hs) ?_)
  generalize getP xs bad = a
  rintro e w' ⟨v1, rfl, hv1, hs'⟩; refine a_ret ?_ hs'; clear hs'
  refine ww ?_
  refine c_cons (s_val (v_field 0 rfl (by kernel_rfl)) rfl rfl rfl ?_)
  refine c_cons (s_val (v_field 9 rfl (by kernel_rfl)) rfl rfl rfl ?_)
  refine c_cons (s_storeAt (vs := [I64 a.1.c, I64 a.1.l, I64 a.1.n, I64 a.1.a, I64 a.1.k]) rfl rfl rfl (.tail .head) (by kernel_rfl) (by simp [Value.oneCell']) (by simp) ?_)
  change Holds _ _ _ _ _ (HdO hb { x with o := a.1 } pv (Pt ep 0) :: EyO ep v1 a.2.2 :: F) _
  refine ww ?_
  refine c_cons (s_val (v_field 15 rfl (by kernel_rfl)) rfl rfl rfl ?_)
  refine c_cons (s_val (v_load rfl (Cel.head rfl) (by kernel_rfl)) rfl rfl rfl ?_)
  refine c_sub (EyO ep v1 a.2.2 :: HdO hb { x with o := a.1 } pv (Pt ep 0) :: F) sbx ?_
  refine c_cons (s_call (xs := [_]) rfl rfl rfl rfl rfl rfl (by kernel_rfl) (fun w hs => getPtr_c ep v1 a.2.2 a.2.1 _ w _ _ hv1 hs) ?_)
  generalize getP a.2.1 a.2.2 = b
  rintro e w' ⟨v2, rfl, hv2, hs'⟩; refine a_ret ?_ hs'; clear hs'
  refine ww ?_
  refine c_cons (s_val (v_field 0 rfl (by kernel_rfl)) rfl rfl rfl ?_)
  refine c_cons (s_val (v_field 4 rfl (by kernel_rfl)) rfl rfl rfl ?_)
  refine c_cons (s_storeAt (vs := [I64 b.1.c, I64 b.1.l, I64 b.1.n, I64 b.1.a, I64 b.1.k]) rfl rfl rfl (.tail .head) (by kernel_rfl) (by simp [Value.oneCell']) (by simp) ?_)
  change Holds _ _ _ _ _ (HdO hb { x with o := a.1, t := b.1 } pv (Pt ep 0) :: EyO ep v2 b.2.2 :: F) _
  refine ww ?_
  exact f_end0 rfl (fun w hs => ⟨v2, rfl, hv2, hs⟩)

theorem grest_c (fp fg : FuncId) (hb ep : Nat) (x : Dl) (hk : kf x.d fp fg) (hx : x.t = p0 ∧ x.o = p0) (pv v : Value) (s : Int × List UInt8 × Int) (w0 w : World) (G : Im) (F : Hp) (hv : EB G v s.2.1) (hs : Sat w0 w G (HdO hb x pv (Pt ep 0) :: EyO ep v s.2.2 :: F)) :
    Calls Try.prog fg #[Pt hb 0] w fun e w' => ∃ v', e = .returned (.tuple #[]) ∧ EB G v' (getT x.d s).2.2.1 ∧ Sat w0 w' G (HdO hb { x with t := (getT x.d s).1, o := (getT x.d s).2.1 } pv (Pt ep 0) :: EyO ep v' (getT x.d s).2.2.2 :: F) := by
  obtain ⟨x1, x2, x3, x4, xt, xo⟩ := x
  obtain ⟨rfl, rfl⟩ : xt = p0 ∧ xo = p0 := hx
  unfold getT
  rcases hk with ⟨h, rfl, rfl⟩ | ⟨h, rfl, rfl⟩ | ⟨h1, h3, rfl, rfl⟩
  · rw [if_pos h]
    exact getTo_c hb ep _ pv v s.2.2 s.2.1 w0 w G F hv hs
  · rw [if_neg (by omega), if_pos h]
    exact getBoth_c hb ep _ pv v s.2.2 s.2.1 w0 w G F hv hs
  · rw [if_neg h1, if_neg h3]
    exact (nothing_c hb w0 w G _ hs).mono fun e w' ⟨h1, h2⟩ => ⟨v, h1, hv, h2⟩

theorem hd_all {G : Im} {F : Hp} {hb : Nat} {x : Dl} {p e : Value} (j : Nat) (u : Value) (hj : x.cells[j]? = some u) : Cel G (HdO hb x p e :: F) hb (0 + 0 + j) u := Cel.head (by
  have h : j < 14 := (List.getElem?_eq_some_iff.1 hj).1
  have e1 : [I64 x.d, I64 x.i, I64 x.b, I64 x.s, I64 x.t.c, I64 x.t.l, I64 x.t.n, I64 x.t.a, I64 x.t.k, I64 x.o.c, I64 x.o.l, I64 x.o.n, I64 x.o.a, I64 x.o.k, p, e] = x.cells ++ [p, e] := rfl
  rw [Nat.zero_add, e1, List.getElem?_append_left h]; exact hj)
abbrev DeO (b : Nat) (x : Dl) : Nat × Obj := (b, Cs [I64 x.d, I64 x.i, I64 x.b, I64 x.s, I64 x.t.c, I64 x.t.l, I64 x.t.n, I64 x.t.a, I64 x.t.k, I64 x.o.c, I64 x.o.l, I64 x.o.n, I64 x.o.a, I64 x.o.k] 75)
def zD : Dl := ⟨0, 0, 0, 0, p0, p0⟩
abbrev Zs : List Value := [I64 0, I64 0, I64 0, I64 0, I64 0, I64 0, I64 0, I64 0, I64 0, I64 0, I64 0, I64 0, I64 0, I64 0]

theorem dget_c (ep : Nat) (v : Value) (xs : List UInt8) (w0 w : World) (G : Im) (F : Hp) (hv : EB G v xs) (hs : Sat w0 w G (EyO ep v 0 :: F)) :
    Calls Try.prog 48 #[Pt ep 0] w fun e w' => ∃ v' b', e = .returned (.tuple #[(if (getDl xs).2.2 = 0 then (getDl xs).1 else zD).V, I64 (getDl xs).2.2]) ∧ ((getDl xs).2.2 = 0 → b' = 0 ∧ EB G v' (getDl xs).2.1) ∧ Sat w0 w' G (EyO ep v' b' :: F) := by
  refine f_enter (vs := [_]) Try.func48 rfl Try.ntmps48 (by simp) hs ?_
  unfold getDl getD0 getN
  refine ww ?_
  refine c_cons (s_allocA Zs (by kernel_rfl) rfl rfl fun b1 => ?_)
  refine ww ?_
  refine c_cons (s_val (v_build (ps := [_]) #[I64 0, I64 0, I64 0, I64 0, I64 0, I64 0, I64 0, I64 0, I64 0, I64 0, I64 0, I64 0, I64 0, I64 0, .pointer none, Pt ep 0] rfl (by kernel_rfl)) rfl rfl rfl ?_)
  refine c_cons (s_boxA [_, _, _, _, _, _, _, _, _, _, _, _, _, _, _, _] rfl rfl rfl fun b2 => ?_)
  change Holds _ _ _ _ _ (HdO b2 zD (.pointer none) (Pt ep 0) :: DeO b1 zD :: EyO ep v 0 :: F) _
  refine c_sub (EyO ep v 0 :: HdO b2 zD (.pointer none) (Pt ep 0) :: DeO b1 zD :: F) sbx ?_
  refine ww ?_
  refine c_cons (s_call (xs := [_, _]) rfl rfl rfl rfl rfl rfl (by kernel_rfl) (fun w hs => enum_c ep _ 0 xs 1 _ w _ _ hv hs) ?_)
  generalize eNum xs 0 1 = a
  rintro e w' ⟨v1, rfl, hv1, hs'⟩; refine a_ret ?_ hs'; clear hs'
  refine ww ?_
  refine c_cons (s_val (v_field 0 rfl (by kernel_rfl)) rfl rfl rfl ?_)
  refine c_cons (s_val (v_field 0 rfl (by kernel_rfl)) rfl rfl rfl ?_)
  refine c_cons (s_store1 rfl rfl rfl (.tail .head) (by kernel_rfl) rfl (by simp) ?_)
  change Holds _ _ _ _ _ (HdO b2 ⟨a.1, 0, 0, 0, p0, p0⟩ (.pointer none) (Pt ep 0) :: EyO ep v1 a.2.2 :: DeO b1 zD :: F) _
  refine c_sub (EyO ep v1 a.2.2 :: HdO b2 ⟨a.1, 0, 0, 0, p0, p0⟩ (.pointer none) (Pt ep 0) :: DeO b1 zD :: F) sbx ?_
  refine ww ?_
  refine c_cons (s_call (xs := [_, _]) rfl rfl rfl rfl rfl rfl (by kernel_rfl) (fun w hs => enum_c ep _ a.2.2 a.2.1 2 _ w _ _ hv1 hs) ?_)
  rw [show eNum a.2.1 a.2.2 2 = nx a 2 from rfl]
  generalize nx a 2 = b
  rintro e w' ⟨v2, rfl, hv2, hs'⟩; refine a_ret ?_ hs'; clear hs'
  refine ww ?_
  refine c_cons (s_val (v_field 0 rfl (by kernel_rfl)) rfl rfl rfl ?_)
  refine c_cons (s_val (v_field 1 rfl (by kernel_rfl)) rfl rfl rfl ?_)
  refine c_cons (s_store1 rfl rfl rfl (.tail .head) (by kernel_rfl) rfl (by simp) ?_)
  change Holds _ _ _ _ _ (HdO b2 ⟨a.1, b.1, 0, 0, p0, p0⟩ (.pointer none) (Pt ep 0) :: EyO ep v2 b.2.2 :: DeO b1 zD :: F) _
  refine c_sub (EyO ep v2 b.2.2 :: HdO b2 ⟨a.1, b.1, 0, 0, p0, p0⟩ (.pointer none) (Pt ep 0) :: DeO b1 zD :: F) sbx ?_
  refine ww ?_
  refine c_cons (s_call (xs := [_, _]) rfl rfl rfl rfl rfl rfl (by kernel_rfl) (fun w hs => enum_c ep _ b.2.2 b.2.1 1 _ w _ _ hv2 hs) ?_)
  rw [show eNum b.2.1 b.2.2 1 = nx b 1 from rfl]
  generalize nx b 1 = c
  rintro e w' ⟨v3, rfl, hv3, hs'⟩; refine a_ret ?_ hs'; clear hs'
  refine ww ?_
  refine c_cons (s_val (v_field 0 rfl (by kernel_rfl)) rfl rfl rfl ?_)
  refine c_cons (s_val (v_field 2 rfl (by kernel_rfl)) rfl rfl rfl ?_)
  refine c_cons (s_store1 rfl rfl rfl (.tail .head) (by kernel_rfl) rfl (by simp) ?_)
  change Holds _ _ _ _ _ (HdO b2 ⟨a.1, b.1, c.1, 0, p0, p0⟩ (.pointer none) (Pt ep 0) :: EyO ep v3 c.2.2 :: DeO b1 zD :: F) _
  refine c_sub (EyO ep v3 c.2.2 :: HdO b2 ⟨a.1, b.1, c.1, 0, p0, p0⟩ (.pointer none) (Pt ep 0) :: DeO b1 zD :: F) sbx ?_
  refine ww ?_
  refine c_cons (s_call (xs := [_, _]) rfl rfl rfl rfl rfl rfl (by kernel_rfl) (fun w hs => enum_c ep _ c.2.2 c.2.1 2 _ w _ _ hv3 hs) ?_)
  rw [show eNum c.2.1 c.2.2 2 = nx c 2 from rfl]
  generalize nx c 2 = d
  rintro e w' ⟨v4, rfl, hv4, hs'⟩; refine a_ret ?_ hs'; clear hs'
  refine ww ?_
  refine c_cons (s_val (v_field 0 rfl (by kernel_rfl)) rfl rfl rfl ?_)
  refine c_cons (s_val (v_field 3 rfl (by kernel_rfl)) rfl rfl rfl ?_)
  refine c_cons (s_store1 rfl rfl rfl (.tail .head) (by kernel_rfl) rfl (by simp) ?_)
  change Holds _ _ _ _ _ (HdO b2 ⟨a.1, b.1, c.1, d.1, p0, p0⟩ (.pointer none) (Pt ep 0) :: EyO ep v4 d.2.2 :: DeO b1 zD :: F) _
  obtain ⟨fp, fg, hk⟩ := kf_ex a.1
  refine ww ?_
  refine c_cons (s_call (xs := [_]) rfl rfl rfl rfl rfl rfl (by kernel_rfl) (fun w hs => rest_c b2 a.1 fp fg hk _ w _ _ (Cel.head rfl) hs) ?_)
  rintro e w' ⟨rfl, hs'⟩; refine a_ret ?_ hs'; clear hs'
  refine ww ?_
  refine c_cons (s_callP rfl rfl rfl rfl rfl (kf_en hk).2 (fun w hs => grest_c fp fg b2 ep ⟨a.1, b.1, c.1, d.1, p0, p0⟩ hk ⟨rfl, rfl⟩ _ v4 d _ w _ _ hv4 hs) ?_)
  dsimp only
  generalize getT a.1 d = r
  rintro e w' ⟨v5, rfl, hv5, hs'⟩; refine a_ret ?_ hs'; clear hs'
  refine c_sub (EyO ep v5 r.2.2.2 :: HdO b2 ⟨a.1, b.1, c.1, d.1, r.1, r.2.1⟩ (.pointer none) (Pt ep 0) :: DeO b1 zD :: F) sbx ?_
  refine ww ?_
  refine c_cons (s_call (xs := [_]) rfl rfl rfl rfl rfl rfl (by kernel_rfl) (fun w hs => fail_c ep _ r.2.2.2 _ w _ _ hs) ?_)
  rintro e w' ⟨rfl, hs'⟩; refine a_ret ?_ hs'; clear hs'
  refine ww ?_
  refine c_cond_d rfl (fun c1 => ?_) (fun c1 => ?_)
  · -- then
    refine c_sub (DeO b1 zD :: EyO ep v5 r.2.2.2 :: F) sbx ?_
    refine ww ?_
    refine c_cons (s_val (v_build (ps := []) #[I64 0, I64 0, I64 0, I64 0, I64 0, I64 0, I64 0, I64 0, I64 0, I64 0, I64 0, I64 0, I64 0, I64 0] rfl (by kernel_rfl)) rfl rfl rfl ?_)
    refine ww ?_
    refine c_cons (s_storeA (vs := Zs) rfl rfl rfl .head (by kernel_rfl) (by simp [Value.oneCell']) rfl ?_)
    refine ww ?_
    rw [if_pos c1]
    dsimp only
    rw [if_neg c1]
    exact f_retA1 (vs := Zs) rfl rfl rfl (by kernel_rfl) (by kernel_rfl) rfl (fun j u hj => Cel.all hj) (fun w hs => ⟨v5, _, rfl, fun h => absurd h c1, hs.tl⟩)
  have c1' : r.2.2.2 = 0 := by omega
  rw [if_neg c1]
  refine c_sub (HdO b2 ⟨a.1, b.1, c.1, d.1, r.1, r.2.1⟩ (.pointer none) (Pt ep 0) :: DeO b1 zD :: EyO ep v5 r.2.2.2 :: F) sbx ?_
  generalize hxx : (⟨a.1, b.1, c.1, d.1, r.1, r.2.1⟩ : Dl) = x
  refine ww ?_
  refine c_cons (s_val (v_field 0 rfl (by kernel_rfl)) rfl rfl rfl ?_)
  refine c_cons (s_val (v_loadAgg (vs := x.cells) rfl (by kernel_rfl) (by kernel_rfl) rfl (fun j u hj => hd_all j u hj)) rfl rfl rfl ?_)
  refine c_cons (s_call (xs := [_]) rfl rfl rfl rfl rfl rfl (by kernel_rfl) (fun w hs => dmay_c x _ w _ _ hs) ?_)
  rintro e w' ⟨rfl, hs'⟩; refine a_ret ?_ hs'; clear hs'
  refine ww ?_
  refine c_cond_nd rfl (fun c2 => ?_) (fun c2 => ?_)
  · -- then
    refine c_sub (DeO b1 zD :: EyO ep v5 r.2.2.2 :: F) sbx ?_
    refine ww ?_
    refine c_cons (s_val (v_build (ps := []) #[I64 0, I64 0, I64 0, I64 0, I64 0, I64 0, I64 0, I64 0, I64 0, I64 0, I64 0, I64 0, I64 0, I64 0] rfl (by kernel_rfl)) rfl rfl rfl ?_)
    refine c_cons (s_storeA (vs := Zs) rfl rfl rfl .head (by kernel_rfl) (by simp [Value.oneCell']) rfl ?_)
    refine ww ?_
    rw [if_neg c2]
    dsimp only
    rw [if_neg (show ¬ (4 : Int) = 0 by decide)]
    exact f_retA1 (vs := Zs) rfl rfl rfl (by kernel_rfl) (by kernel_rfl) rfl (fun j u hj => Cel.all hj) (fun w hs => ⟨v5, _, rfl, fun h => absurd h (by decide), hs.tl⟩)
  rw [if_pos c2]
  dsimp only
  rw [if_pos c1']
  refine ww ?_
  refine c_cons (s_val (v_field 0 rfl (by kernel_rfl)) rfl rfl rfl ?_)
  refine c_cons (s_val (v_loadAgg (vs := x.cells) rfl (by kernel_rfl) (by kernel_rfl) rfl (fun j u hj => hd_all j u hj)) rfl rfl rfl ?_)
  refine c_cons (s_storeA (vs := x.cells) rfl rfl rfl (.tail .head) (by kernel_rfl) (by simp [Value.oneCell']) rfl ?_)
  refine ww ?_
  exact f_retA1 (vs := x.cells) rfl rfl rfl (by kernel_rfl) (by kernel_rfl) rfl (fun j u hj => Cel.all hj) (fun w hs => ⟨v5, r.2.2.2, by rw [c1'], fun _ => ⟨c1', hv5⟩, hs.sb⟩)
end

section
open Go
set_option linter.unusedVariables false
set_option linter.unusedSimpArgs false
set_option maxHeartbeats 3200000
attribute [local irreducible] Code.wp wpList stepK Holds Val wpR Eff Eff0 Code.wpIn wpListIn stepI Exit.then Exit.inBlock bodyPost bodyPostM
-- (*pinstripe/wire.Eye).Text
theorem etext_c (ep : Nat) (v : Value) (bad : Int) (xs : List UInt8) (i : Int) (w0 w : World) (G : Im) (F : Hp) (hv : EB G v xs) (hs : Sat w0 w G (EyO ep v bad :: F)) :
    Calls Try.prog 44 #[Pt ep 0, I64 i] w fun e w' => ∃ G' v', e = .returned (St (eRaw xs bad i).1) ∧ Im.le G G' ∧ EB G' v' (eRaw xs bad i).2.1 ∧ Sat w0 w' G' (EyO ep v' (eRaw xs bad i).2.2 :: F) := by
  refine f_enter (vs := [_, _]) Try.func44 rfl Try.ntmps44 (by simp) hs ?_
  refine ww ?_
  refine c_cons (s_call (xs := [_, _]) rfl rfl rfl rfl rfl rfl (by kernel_rfl) (fun w hs => eraw_c ep _ bad xs i _ w _ _ hv hs) ?_)
  rintro e w' ⟨G1, u1, v1, rfl, hG1, hu1, hv1, hs'⟩; refine a_ret ?_ hs'; clear hs'
  refine c_cons (s_val (v_bstr 5 rfl (hu1.mono (Im.le_refl _) (by simp)) (by kernel_rfl) (by kernel_rfl)) rfl rfl rfl ?_)
  refine ww ?_
  exact f_ret1 rfl rfl (fun w hs => ⟨G1, v1, rfl, hG1, hv1, hs⟩)
end

section
open Go
set_option linter.unusedVariables false
set_option linter.unusedSimpArgs false
set_option maxHeartbeats 1600000
set_option maxRecDepth 4000
abbrev RqO (b : Nat) (q : Nq) (vs vd : Value) : Nat × Obj := (b, Cs (q.cells vs vd) 37)
abbrev StO (b : Nat) (x : Sz) : Nat × Obj := (b, Cs [I64 x.c, I64 x.l, I64 x.n] 71)
attribute [local irreducible] Code.wp wpList stepK Holds Val wpR Eff Eff0 Code.wpIn wpListIn stepI Exit.then Exit.inBlock bodyPost bodyPostM

theorem ngetStr_c (ep : Nat) (v0 : Value) (bad : Int) (xs : List UInt8) (w0 w : World) (G : Im) (F : Hp) (hv0 : EB G v0 xs) (hs : Sat w0 w G (EyO ep v0 bad :: F)) :
    Calls Try.prog 47 #[Pt ep 0] w fun e w' => ∃ v', e = .returned (.agg #[I64 (gStr xs bad).1.c, I64 (gStr xs bad).1.l, I64 (gStr xs bad).1.n]) ∧ EB G v' (gStr xs bad).2.1 ∧ Sat w0 w' G (EyO ep v' (gStr xs bad).2.2 :: F) := by
  unfold gStr
  refine f_enter (vs := [_]) Try.func47 rfl Try.ntmps47 (by simp) hs ?_
  refine ww ?_
  refine c_cons (s_allocA [I64 0, I64 0, I64 0] (by kernel_rfl) rfl rfl fun b1 => ?_)
  refine ww ?_
  refine c_cons (s_allocA [I64 0, I64 0, I64 0] (by kernel_rfl) rfl rfl fun b2 => ?_)
  change Holds _ _ _ _ _ (StO b2 zSz :: StO b1 zSz :: EyO ep v0 bad :: F) _
  obtain ⟨t0, ht0⟩ : ∃ x, x = (zSz, xs, bad) := ⟨_, rfl⟩
  change EB G v0 (zSz, xs, bad).2.1 at hv0
  change Holds _ _ _ _ _ (StO b2 (zSz, xs, bad).1 :: StO b1 zSz :: EyO ep v0 (zSz, xs, bad).2.2 :: F) _
  rw [← ht0] at hv0 ⊢
  refine c_sub (EyO ep v0 t0.2.2 :: StO b2 t0.1 :: StO b1 zSz :: F) sbx ?_
  refine ww ?_
  refine c_cons (s_call (xs := [_, _]) rfl rfl rfl rfl rfl rfl (by kernel_rfl) (fun w hs => enum_c ep _ t0.2.2 t0.2.1 1 _ w _ _ hv0 hs) ?_)
  rintro e w' ⟨v1, rfl, hv1, hs'⟩; refine a_ret ?_ hs'; clear hs'
  refine c_cons (s_val (v_field 0 rfl (by kernel_rfl)) rfl rfl rfl ?_)
  refine c_cons (s_store1 rfl rfl rfl (.tail .head) (by kernel_rfl) rfl (by simp) ?_)
  obtain ⟨t1, ht1⟩ : ∃ x, x = stN 1 (fun (q : Sz) x => { q with c := x }) t0 := ⟨_, rfl⟩
  change EB G v1 (stN 1 (fun (q : Sz) x => { q with c := x }) t0).2.1 at hv1
  change Holds _ _ _ _ _ (StO b2 (stN 1 (fun (q : Sz) x => { q with c := x }) t0).1  :: EyO ep v1 (stN 1 (fun (q : Sz) x => { q with c := x }) t0).2.2 :: StO b1 zSz :: F) _
  rw [← ht1] at hv1 ⊢
  refine c_sub (EyO ep v1 t1.2.2 :: StO b2 t1.1  :: StO b1 zSz :: F) sbx ?_
  refine ww ?_
  refine c_cons (s_call (xs := [_, _]) rfl rfl rfl rfl rfl rfl (by kernel_rfl) (fun w hs => enum_c ep _ t1.2.2 t1.2.1 3 _ w _ _ hv1 hs) ?_)
  rintro e w' ⟨v2, rfl, hv2, hs'⟩; refine a_ret ?_ hs'; clear hs'
  refine c_cons (s_val (v_field 1 rfl (by kernel_rfl)) rfl rfl rfl ?_)
  refine c_cons (s_store1 rfl rfl rfl (.tail .head) (by kernel_rfl) rfl (by simp) ?_)
  obtain ⟨t2, ht2⟩ : ∃ x, x = stN 3 (fun (q : Sz) x => { q with l := x }) t1 := ⟨_, rfl⟩
  change EB G v2 (stN 3 (fun (q : Sz) x => { q with l := x }) t1).2.1 at hv2
  change Holds _ _ _ _ _ (StO b2 (stN 3 (fun (q : Sz) x => { q with l := x }) t1).1  :: EyO ep v2 (stN 3 (fun (q : Sz) x => { q with l := x }) t1).2.2 :: StO b1 zSz :: F) _
  rw [← ht2] at hv2 ⊢
  refine c_sub (EyO ep v2 t2.2.2 :: StO b2 t2.1  :: StO b1 zSz :: F) sbx ?_
  refine ww ?_
  refine c_cons (s_call (xs := [_, _]) rfl rfl rfl rfl rfl rfl (by kernel_rfl) (fun w hs => enum_c ep _ t2.2.2 t2.2.1 4 _ w _ _ hv2 hs) ?_)
  rintro e w' ⟨v3, rfl, hv3, hs'⟩; refine a_ret ?_ hs'; clear hs'
  refine c_cons (s_val (v_field 2 rfl (by kernel_rfl)) rfl rfl rfl ?_)
  refine c_cons (s_store1 rfl rfl rfl (.tail .head) (by kernel_rfl) rfl (by simp) ?_)
  obtain ⟨t3, ht3⟩ : ∃ x, x = stN 4 (fun (q : Sz) x => { q with n := x }) t2 := ⟨_, rfl⟩
  change EB G v3 (stN 4 (fun (q : Sz) x => { q with n := x }) t2).2.1 at hv3
  change Holds _ _ _ _ _ (StO b2 (stN 4 (fun (q : Sz) x => { q with n := x }) t2).1  :: EyO ep v3 (stN 4 (fun (q : Sz) x => { q with n := x }) t2).2.2 :: StO b1 zSz :: F) _
  rw [← ht3] at hv3 ⊢
  refine c_sub (EyO ep v3 t3.2.2 :: StO b2 t3.1  :: StO b1 zSz :: F) sbx ?_
  refine ww ?_
  refine c_cons (s_val (v_loadAgg (vs := [I64 t3.1.c, I64 t3.1.l, I64 t3.1.n]) rfl (by kernel_rfl) (by kernel_rfl) rfl (fun j u hj => (Cel.tail (Cel.all hj)))) rfl rfl rfl ?_)
  refine c_cons (s_storeA (vs := [I64 t3.1.c, I64 t3.1.l, I64 t3.1.n]) rfl rfl rfl (.tail (.tail .head)) (by kernel_rfl) (by simp [Value.oneCell']) rfl ?_)
  refine ww ?_
  exact f_retA (vs := [I64 t3.1.c, I64 t3.1.l, I64 t3.1.n]) rfl rfl (by kernel_rfl) (by kernel_rfl) rfl (fun j u hj => (Cel.all hj)) (fun w hs => ⟨v3, rfl, hv3, hs.sb⟩)

/-- The rows so far, and where they lie. -/
abbrev SzO (G : Im) (v : Value) (l : List Sz) (B : Hp) : Prop := ROwn 4 SzR 81 G v l B
abbrev DlO (G : Im) (v : Value) (l : List Dl) (B : Hp) : Prop := ROwn 14 DlR 75 G v l B
theorem own_one {v : Value} {k : Nat} {L : List Value} {e : TypeId} {sz : Nat} {B : Hp} (h : Own v k L e sz B) : v.oneCell' = true := by obtain ⟨ad, c, rfl⟩ := h.form; rfl
theorem DlO.snoc {G : Im} {v : Value} {l : List Dl} {B : Hp} {L : List Value} {x : Dl} (hR : Recs 14 (DlR G) L l) (ho : Own v (l.length + 1) (L ++ x.cells) 75 14 B) : DlO G v (l ++ [x]) B :=
  ⟨L ++ x.cells, by rw [List.length_append]; exact ho, hR.append (Recs.one rfl rfl)⟩
theorem SzO.snoc {G : Im} {v : Value} {l : List Sz} {B : Hp} {L : List Value} {x : Sz} (hR : Recs 4 (SzR G) L l) (ho : Own v (l.length + 1) (L ++ x.cells) 81 4 B) : SzO G v (l ++ [x]) B :=
  ⟨L ++ x.cells, by rw [List.length_append]; exact ho, hR.append (Recs.one rfl rfl)⟩

theorem ndec1_c (b1 ep : Nat) (v0 : Value) (xs : List UInt8) (w0 w : World) (G : Im) (F : Hp) (hv0 : EB G v0 xs) (hs : Sat w0 w G (EyO ep v0 0 :: RqO b1 zNq (.slice none 0 0) (.slice none 0 0) :: F)) :
    Calls Try.prog 41 #[Pt ep 0, Pt b1 0] w fun e w' => ∃ G', Im.le G G' ∧ ((∃ v' ys q vs vd B B', e = .returned (.tuple #[]) ∧ EB G' v' ys ∧ (decQ xs = if 0 < ys.length then (zNq, 3) else (q, 0)) ∧ SzO G' vs q.ss B ∧ DlO G' vd q.ds B' ∧ Sat w0 w' G' (EyO ep v' 0 :: RqO b1 q vs vd :: (B ++ (B' ++ F)))) ∨ ∃ c, e = .panicked (ngone c) ∧ c ≠ 0 ∧ decQ xs = (zNq, c) ∧ Sat w0 w' G' F) := by
  refine f_enter (vs := [_, _]) Try.func41 rfl Try.ntmps41 (by simp) hs ?_
  obtain ⟨t0, ht0⟩ : ∃ x, x = (zNq, xs, (0 : Int)) := ⟨_, rfl⟩
  change EB G v0 (zNq, xs, (0 : Int)).2.1 at hv0
  change Holds _ _ _ _ _ (EyO ep v0 (zNq, xs, (0 : Int)).2.2 :: RqO b1 (zNq, xs, (0 : Int)).1 (.slice none 0 0) (.slice none 0 0) :: F) _
  rw [← ht0] at hv0 ⊢
  refine ww ?_
  refine c_cons (s_call (xs := [_, _]) rfl rfl rfl rfl rfl rfl (by kernel_rfl) (fun w hs => enum_c ep _ t0.2.2 t0.2.1 1 _ w _ _ hv0 hs) ?_)
  rintro e w' ⟨v1, rfl, hv1, hs'⟩; refine a_ret ?_ hs'; clear hs'
  refine c_cons (s_val (v_field 0 rfl (by kernel_rfl)) rfl rfl rfl ?_)
  refine c_cons (s_val (v_field 0 rfl (by kernel_rfl)) rfl rfl rfl ?_)
  refine c_cons (s_store1 rfl rfl rfl (.tail .head) (by kernel_rfl) rfl (by simp) ?_)
  obtain ⟨t1, ht1⟩ : ∃ x, x = stN 1 fC t0 := ⟨_, rfl⟩
  change EB G v1 (stN 1 fC t0).2.1 at hv1
  change Holds _ _ _ _ _ (RqO b1 (stN 1 fC t0).1 (.slice none 0 0) (.slice none 0 0) :: EyO ep v1 (stN 1 fC t0).2.2 :: F) _
  rw [← ht1] at hv1 ⊢
  refine c_sub (EyO ep v1 t1.2.2 :: RqO b1 t1.1 (.slice none 0 0) (.slice none 0 0) :: F) sbx ?_
  refine ww ?_
  refine c_cons (s_call (xs := [_, _]) rfl rfl rfl rfl rfl rfl (by kernel_rfl) (fun w hs => enum_c ep _ t1.2.2 t1.2.1 3 _ w _ _ hv1 hs) ?_)
  rintro e w' ⟨v2, rfl, hv2, hs'⟩; refine a_ret ?_ hs'; clear hs'
  refine c_cons (s_val (v_field 0 rfl (by kernel_rfl)) rfl rfl rfl ?_)
  refine c_cons (s_val (v_field 1 rfl (by kernel_rfl)) rfl rfl rfl ?_)
  refine c_cons (s_store1 rfl rfl rfl (.tail .head) (by kernel_rfl) rfl (by simp) ?_)
  obtain ⟨t2, ht2⟩ : ∃ x, x = stN 3 fL t1 := ⟨_, rfl⟩
  change EB G v2 (stN 3 fL t1).2.1 at hv2
  change Holds _ _ _ _ _ (RqO b1 (stN 3 fL t1).1 (.slice none 0 0) (.slice none 0 0) :: EyO ep v2 (stN 3 fL t1).2.2 :: F) _
  rw [← ht2] at hv2 ⊢
  refine c_sub (EyO ep v2 t2.2.2 :: RqO b1 t2.1 (.slice none 0 0) (.slice none 0 0) :: F) sbx ?_
  refine ww ?_
  refine c_cons (s_call (xs := [_, _]) rfl rfl rfl rfl rfl rfl (by kernel_rfl) (fun w hs => enum_c ep _ t2.2.2 t2.2.1 4 _ w _ _ hv2 hs) ?_)
  rintro e w' ⟨v3, rfl, hv3, hs'⟩; refine a_ret ?_ hs'; clear hs'
  refine c_cons (s_val (v_field 0 rfl (by kernel_rfl)) rfl rfl rfl ?_)
  refine c_cons (s_val (v_field 2 rfl (by kernel_rfl)) rfl rfl rfl ?_)
  refine c_cons (s_store1 rfl rfl rfl (.tail .head) (by kernel_rfl) rfl (by simp) ?_)
  obtain ⟨t3, ht3⟩ : ∃ x, x = stN 4 fS t2 := ⟨_, rfl⟩
  change EB G v3 (stN 4 fS t2).2.1 at hv3
  change Holds _ _ _ _ _ (RqO b1 (stN 4 fS t2).1 (.slice none 0 0) (.slice none 0 0) :: EyO ep v3 (stN 4 fS t2).2.2 :: F) _
  rw [← ht3] at hv3 ⊢
  refine c_sub (EyO ep v3 t3.2.2 :: RqO b1 t3.1 (.slice none 0 0) (.slice none 0 0) :: F) sbx ?_
  refine ww ?_
  refine c_cons (s_call (xs := [_, _]) rfl rfl rfl rfl rfl rfl (by kernel_rfl) (fun w hs => enum_c ep _ t3.2.2 t3.2.1 1 _ w _ _ hv3 hs) ?_)
  rintro e w' ⟨v4, rfl, hv4, hs'⟩; refine a_ret ?_ hs'; clear hs'
  refine c_cons (s_val (v_field 3 rfl (by kernel_rfl)) rfl rfl rfl ?_)
  refine c_cons (s_store1 rfl rfl rfl (.tail .head) (by kernel_rfl) rfl (by simp) ?_)
  obtain ⟨t4, ht4⟩ : ∃ x, x = stN 1 fD t3 := ⟨_, rfl⟩
  change EB G v4 (stN 1 fD t3).2.1 at hv4
  change Holds _ _ _ _ _ (RqO b1 (stN 1 fD t3).1 (.slice none 0 0) (.slice none 0 0) :: EyO ep v4 (stN 1 fD t3).2.2 :: F) _
  rw [← ht4] at hv4 ⊢
  refine c_sub (EyO ep v4 t4.2.2 :: RqO b1 t4.1 (.slice none 0 0) (.slice none 0 0) :: F) sbx ?_
  refine ww ?_
  have hhd : hdT xs = t4 := by rw [ht4, ht3, ht2, ht1, ht0]; rfl
  refine c_cons (s_call (xs := [_]) rfl rfl rfl rfl rfl rfl (by kernel_rfl) (fun w hs => ngoing_c ep v4 t4.2.2 _ w _ _ hs) ?_)
  rintro e w' ⟨hs', ⟨hb, rfl⟩ | ⟨hb, rfl⟩⟩
  rotate_left
  · refine a_panic ?_ hs'; clear hs'
    repeat (first | refine x_then_panic ?_ | refine x_block_panic ?_)
    exact f_panic (fun w hs => ⟨G, Im.le_refl _, .inr ⟨_, rfl, hb, by rw [← hhd] at hb ⊢; exact decQ_bad hb, hs.tl.tl⟩⟩)
  refine a_ret ?_ hs'; clear hs'
  refine ww ?_
  refine c_cons (s_val (v_field 3 rfl (by kernel_rfl)) rfl rfl rfl ?_)
  refine c_cons (s_val (v_load rfl (Cel.tail (Cel.head rfl)) (by kernel_rfl)) rfl rfl rfl ?_)
  refine c_cons (s_call (xs := [_]) rfl rfl rfl rfl rfl rfl (by kernel_rfl) (fun w hs => nkind_c _ _ w _ _ hs) ?_)
  rintro e w' ⟨rfl, hs'⟩; refine a_ret ?_ hs'; clear hs'
  by_cases hk : 1 ≤ t4.1.d ∧ t4.1.d ≤ 11
  rotate_left
  · rw [decide_eq_false hk]
    refine c_cons (s_call (xs := [_, _]) rfl rfl rfl rfl rfl rfl (by kernel_rfl) (fun w hs => nmust_f 4 _ w _ _ hs) ?_)
    rintro e w' ⟨rfl, hs'⟩
    refine a_panic ?_ hs'; clear hs'
    repeat (first | refine x_then_panic ?_ | refine x_block_panic ?_)
    exact f_panic (fun w hs => ⟨G, Im.le_refl _, .inr ⟨4, rfl, by decide, by rw [← hhd] at hb hk; exact decQ_kind hb hk, hs.tl.tl⟩⟩)
  rw [decide_eq_true hk]
  refine c_cons (s_call (xs := [_, _]) rfl rfl rfl rfl rfl rfl (by kernel_rfl) (fun w hs => nmust_t 4 _ w _ _ hs) ?_)
  rintro e w' ⟨rfl, hs'⟩; refine a_ret ?_ hs'; clear hs'
  have hdm : decQ xs = dqM (midT t4) := by rw [← hhd] at hb hk ⊢; exact decQ_ok hb hk
  refine ww ?_
  refine c_cons (s_call (xs := [_, _]) rfl rfl rfl rfl rfl rfl (by kernel_rfl) (fun w hs => etext_c ep _ t4.2.2 t4.2.1 65535 _ w _ _ hv4 hs) ?_)
  rintro e w' ⟨G5, v5, rfl, hG5, hv5, hs'⟩; refine a_ret ?_ hs'; clear hs'
  refine c_cons (s_val (v_field 4 rfl (by kernel_rfl)) rfl rfl rfl ?_)
  refine c_cons (s_store1 rfl rfl rfl (.tail .head) (by kernel_rfl) rfl (by simp) ?_)
  obtain ⟨t5, ht5⟩ : ∃ x, x = stR fP t4 := ⟨_, rfl⟩
  change EB G5 v5 (stR fP t4).2.1 at hv5
  change Holds _ _ _ _ _ (RqO b1 (stR fP t4).1 (.slice none 0 0) (.slice none 0 0) :: EyO ep v5 (stR fP t4).2.2 :: F) _
  rw [← ht5] at hv5 ⊢
  refine c_sub (EyO ep v5 t5.2.2 :: RqO b1 t5.1 (.slice none 0 0) (.slice none 0 0) :: F) sbx ?_
  refine ww ?_
  refine c_cons (s_call (xs := [_, _]) rfl rfl rfl rfl rfl rfl (by kernel_rfl) (fun w hs => etext_c ep _ t5.2.2 t5.2.1 65535 _ w _ _ hv5 hs) ?_)
  rintro e w' ⟨G6, v6, rfl, hG6, hv6, hs'⟩; refine a_ret ?_ hs'; clear hs'
  refine c_cons (s_val (v_field 5 rfl (by kernel_rfl)) rfl rfl rfl ?_)
  refine c_cons (s_store1 rfl rfl rfl (.tail .head) (by kernel_rfl) rfl (by simp) ?_)
  obtain ⟨t6, ht6⟩ : ∃ x, x = stR fT t5 := ⟨_, rfl⟩
  change EB G6 v6 (stR fT t5).2.1 at hv6
  change Holds _ _ _ _ _ (RqO b1 (stR fT t5).1 (.slice none 0 0) (.slice none 0 0) :: EyO ep v6 (stR fT t5).2.2 :: F) _
  rw [← ht6] at hv6 ⊢
  refine c_sub (EyO ep v6 t6.2.2 :: RqO b1 t6.1 (.slice none 0 0) (.slice none 0 0) :: F) sbx ?_
  refine ww ?_
  refine c_cons (s_call (xs := [_]) rfl rfl rfl rfl rfl rfl (by kernel_rfl) (fun w hs => ebool_c ep _ t6.2.2 t6.2.1 _ w _ _ hv6 hs) ?_)
  rintro e w' ⟨v7, rfl, hv7, hs'⟩; refine a_ret ?_ hs'; clear hs'
  refine c_cons (s_val (v_field 6 rfl (by kernel_rfl)) rfl rfl rfl ?_)
  refine c_cons (s_store1 rfl rfl rfl (.tail .head) (by kernel_rfl) rfl (by simp) ?_)
  obtain ⟨t7, ht7⟩ : ∃ x, x = stB fA t6 := ⟨_, rfl⟩
  change EB G6 v7 (stB fA t6).2.1 at hv7
  change Holds _ _ _ _ _ (RqO b1 (stB fA t6).1 (.slice none 0 0) (.slice none 0 0) :: EyO ep v7 (stB fA t6).2.2 :: F) _
  rw [← ht7] at hv7 ⊢
  refine c_sub (EyO ep v7 t7.2.2 :: RqO b1 t7.1 (.slice none 0 0) (.slice none 0 0) :: F) sbx ?_
  refine ww ?_
  refine c_cons (s_call (xs := [_]) rfl rfl rfl rfl rfl rfl (by kernel_rfl) (fun w hs => ebool_c ep _ t7.2.2 t7.2.1 _ w _ _ hv7 hs) ?_)
  rintro e w' ⟨v8, rfl, hv8, hs'⟩; refine a_ret ?_ hs'; clear hs'
  refine c_cons (s_val (v_field 7 rfl (by kernel_rfl)) rfl rfl rfl ?_)
  refine c_cons (s_store1 rfl rfl rfl (.tail .head) (by kernel_rfl) rfl (by simp) ?_)
  obtain ⟨t8, ht8⟩ : ∃ x, x = stB fB t7 := ⟨_, rfl⟩
  change EB G6 v8 (stB fB t7).2.1 at hv8
  change Holds _ _ _ _ _ (RqO b1 (stB fB t7).1 (.slice none 0 0) (.slice none 0 0) :: EyO ep v8 (stB fB t7).2.2 :: F) _
  rw [← ht8] at hv8 ⊢
  refine c_sub (EyO ep v8 t8.2.2 :: RqO b1 t8.1 (.slice none 0 0) (.slice none 0 0) :: F) sbx ?_
  refine ww ?_
  refine c_cons (s_call (xs := [_]) rfl rfl rfl rfl rfl rfl (by kernel_rfl) (fun w hs => ebool_c ep _ t8.2.2 t8.2.1 _ w _ _ hv8 hs) ?_)
  rintro e w' ⟨v9, rfl, hv9, hs'⟩; refine a_ret ?_ hs'; clear hs'
  refine c_cons (s_val (v_field 8 rfl (by kernel_rfl)) rfl rfl rfl ?_)
  refine c_cons (s_store1 rfl rfl rfl (.tail .head) (by kernel_rfl) rfl (by simp) ?_)
  obtain ⟨t9, ht9⟩ : ∃ x, x = stB fE t8 := ⟨_, rfl⟩
  change EB G6 v9 (stB fE t8).2.1 at hv9
  change Holds _ _ _ _ _ (RqO b1 (stB fE t8).1 (.slice none 0 0) (.slice none 0 0) :: EyO ep v9 (stB fE t8).2.2 :: F) _
  rw [← ht9] at hv9 ⊢
  refine c_sub (EyO ep v9 t9.2.2 :: RqO b1 t9.1 (.slice none 0 0) (.slice none 0 0) :: F) sbx ?_
  refine ww ?_
  refine c_cons (s_call (xs := [_, _]) rfl rfl rfl rfl rfl rfl (by kernel_rfl) (fun w hs => enum_c ep _ t9.2.2 t9.2.1 1 _ w _ _ hv9 hs) ?_)
  rintro e w' ⟨v10, rfl, hv10, hs'⟩; refine a_ret ?_ hs'; clear hs'
  refine c_cons (s_val (v_field 9 rfl (by kernel_rfl)) rfl rfl rfl ?_)
  refine c_cons (s_store1 rfl rfl rfl (.tail .head) (by kernel_rfl) rfl (by simp) ?_)
  obtain ⟨t10, ht10⟩ : ∃ x, x = stN 1 fH t9 := ⟨_, rfl⟩
  change EB G6 v10 (stN 1 fH t9).2.1 at hv10
  change Holds _ _ _ _ _ (RqO b1 (stN 1 fH t9).1 (.slice none 0 0) (.slice none 0 0) :: EyO ep v10 (stN 1 fH t9).2.2 :: F) _
  rw [← ht10] at hv10 ⊢
  refine c_sub (EyO ep v10 t10.2.2 :: RqO b1 t10.1 (.slice none 0 0) (.slice none 0 0) :: F) sbx ?_
  refine ww ?_
  refine c_cons (s_call (xs := [_, _]) rfl rfl rfl rfl rfl rfl (by kernel_rfl) (fun w hs => enum_c ep _ t10.2.2 t10.2.1 4 _ w _ _ hv10 hs) ?_)
  rintro e w' ⟨v11, rfl, hv11, hs'⟩; refine a_ret ?_ hs'; clear hs'
  refine c_cons (s_val (v_field 10 rfl (by kernel_rfl)) rfl rfl rfl ?_)
  refine c_cons (s_store1 rfl rfl rfl (.tail .head) (by kernel_rfl) rfl (by simp) ?_)
  obtain ⟨t11, ht11⟩ : ∃ x, x = stN 4 fX t10 := ⟨_, rfl⟩
  change EB G6 v11 (stN 4 fX t10).2.1 at hv11
  change Holds _ _ _ _ _ (RqO b1 (stN 4 fX t10).1 (.slice none 0 0) (.slice none 0 0) :: EyO ep v11 (stN 4 fX t10).2.2 :: F) _
  rw [← ht11] at hv11 ⊢
  refine c_sub (EyO ep v11 t11.2.2 :: RqO b1 t11.1 (.slice none 0 0) (.slice none 0 0) :: F) sbx ?_
  refine ww ?_
  refine c_cons (s_call (xs := [_, _]) rfl rfl rfl rfl rfl rfl (by kernel_rfl) (fun w hs => enum_c ep _ t11.2.2 t11.2.1 3 _ w _ _ hv11 hs) ?_)
  rintro e w' ⟨v12, rfl, hv12, hs'⟩; refine a_ret ?_ hs'; clear hs'
  refine c_cons (s_val (v_field 11 rfl (by kernel_rfl)) rfl rfl rfl ?_)
  refine c_cons (s_store1 rfl rfl rfl (.tail .head) (by kernel_rfl) rfl (by simp) ?_)
  obtain ⟨t12, ht12⟩ : ∃ x, x = stN 3 fW t11 := ⟨_, rfl⟩
  change EB G6 v12 (stN 3 fW t11).2.1 at hv12
  change Holds _ _ _ _ _ (RqO b1 (stN 3 fW t11).1 (.slice none 0 0) (.slice none 0 0) :: EyO ep v12 (stN 3 fW t11).2.2 :: F) _
  rw [← ht12] at hv12 ⊢
  refine c_sub (EyO ep v12 t12.2.2 :: RqO b1 t12.1 (.slice none 0 0) (.slice none 0 0) :: F) sbx ?_
  refine ww ?_
  have hmid : midT t4 = t12 := by rw [ht12, ht11, ht10, ht9, ht8, ht7, ht6, ht5]; rfl
  rw [hmid] at hdm
  have hq := (show dqM t12 = dqC zNq (dqR zNq getSz (dqS t12.1)) (eNum t12.2.1 t12.2.2 2) from rfl)
  rw [hq] at hdm
  clear hq hmid hhd ht12 ht11 ht10 ht9 ht8 ht7 ht6 ht5 ht4 ht3 ht2 ht1 ht0
  have hG := hG5.trans hG6
  refine c_cons (s_call (xs := [_]) rfl rfl rfl rfl rfl rfl (by kernel_rfl) (fun w hs => ncount_c ep v12 t12.2.2 t12.2.1 _ w _ _ hv12 hs) ?_)
  have hn0 := eNum_pos t12.2.1 t12.2.2 2
  have hn1 := eNum_2 t12.2.1 t12.2.2
  generalize eNum t12.2.1 t12.2.2 2 = a at hdm hn0 hn1 ⊢
  rintro e w' ⟨va, hva, hs', ⟨hb, rfl⟩ | ⟨hb, hb2, rfl⟩ | ⟨hb1, hb2, rfl⟩⟩
  · refine a_panic ?_ hs'; clear hs'
    repeat (first | refine x_then_panic ?_ | refine x_block_panic ?_)
    exact f_panic (fun w hs => ⟨G6, hG, .inr ⟨_, rfl, hb, by rw [hdm]; exact dqC_bad hb, hs.tl.tl⟩⟩)
  · refine a_panic ?_ hs'; clear hs'
    repeat (first | refine x_then_panic ?_ | refine x_block_panic ?_)
    exact f_panic (fun w hs => ⟨G6, hG, .inr ⟨_, rfl, by decide, by rw [hdm]; exact dqC_long hb (by omega), hs.tl.tl⟩⟩)
  refine a_ret ?_ hs'; clear hs'
  rw [dqC_ok hb1 (by omega)] at hdm
  rw [hb1]
  refine ww ?_
  refine c_loop (α := Nat × Im × Value × Value × Hp) (fun x => [(0, Pt ep 0), (1, Pt b1 0), (52, I64 a.1), (53, I64 x.1)]) (fun x => x.2.1) (fun x => EyO ep x.2.2.1 0 :: RqO b1 t12.1 x.2.2.2.1 (.slice none 0 0) :: (x.2.2.2.2 ++ F)) (fun x => (x.1 : Int) ≤ a.1 ∧ Im.le G x.2.1 ∧ EB x.2.1 x.2.2.1 (gAfter getSz x.1 a.2.1) ∧ SzO x.2.1 x.2.2.2.1 (gRedd getSz x.1 a.2.1) x.2.2.2.2 ∧ gGood getSz x.1 a.2.1) (fun x => a.1.toNat - x.1) (0, G6, va, .slice none 0 0, []) ⟨hn0, hG, hva, ROwn.zero _ _, trivial⟩ ?_ ?_
  · exact n_at ⟨rfl, rfl, rfl, rfl, trivial⟩ sbx
  rintro ⟨i, G7, v, vl, B⟩ ⟨hi, hG7, hvi, ho, hg⟩
  dsimp only at hi hG7 hvi ho hg ⊢
  refine ww ?_
  refine c_cond_d rfl (fun c1 => ?_) (fun c1 => ?_)
  · -- then
    have has := gAfter_snoc getSz i a.2.1
    have hrs := gRedd_snoc getSz i a.2.1
    have hrl := gRedd_len getSz i a.2.1
    have hgs := gGood_snoc getSz i a.2.1 hg
    have hb3 := fun h => hdm.trans (dqR_bad (z := zNq) (k := dqS t12.1) (n := a.1) i hg (by omega) h)
    obtain ⟨L, hoL, hRL⟩ := ho
    refine ww ?_
    refine c_cons (s_call (xs := [_]) rfl rfl rfl rfl rfl rfl (by kernel_rfl) (fun w hs => ngetStr_c ep v 0 (gAfter getSz i a.2.1) _ w _ _ hvi hs) ?_)
    have hgz : getSz (gAfter getSz i a.2.1) = stN 2 (fun (q : Sz) x => { q with z := x }) (gStr (gAfter getSz i a.2.1) 0) := rfl
    generalize gStr (gAfter getSz i a.2.1) 0 = s at hgz ⊢
    rw [hgz] at has hrs hgs hb3
    rintro e w' ⟨v1, rfl, hv1, hs'⟩; refine a_ret ?_ hs'; clear hs'
    refine c_cons (s_allocA [I64 0, I64 0, I64 0] (by kernel_rfl) rfl rfl fun b2 => ?_)
    refine c_cons (s_storeA (vs := [I64 s.1.c, I64 s.1.l, I64 s.1.n]) rfl rfl rfl .head (by kernel_rfl) (by simp [Value.oneCell']) rfl ?_)
    refine ww ?_
    refine c_freeze .head fun G8 hG8 k1 => ?_
    replace hv1 := hv1.up (H := []) hG8
    replace hRL := hRL.mono fun c x => SzR.up _ _ c x hG8
    refine c_sub (EyO ep v1 s.2.2 :: RqO b1 t12.1 vl (.slice none 0 0) :: (B ++ F)) sbx ?_
    refine r_startS [RqO b1 t12.1 vl (.slice none 0 0)] [9] (by kernel_rfl) (fun w h => h.sb) ?_
    refine r_tk 0 rfl rfl (v_field 12 rfl (by kernel_rfl)) (fun _ h => (h.sb)) ?_
    refine r_tk 1 rfl rfl (v_load rfl (Cel.head rfl) (by kernel_rfl)) (fun _ h => (h.sb)) ?_
    refine r_tk 2 rfl rfl (v_loadAgg (vs := [I64 s.1.c, I64 s.1.l, I64 s.1.n]) rfl (by kernel_rfl) (by kernel_rfl) rfl (fun j u hj => (Cel.allI k1 hj))) (fun _ h => (h.sb)) ?_
    refine r_tk 3 rfl rfl (v_move rfl) (fun _ h => (h.sb)) ?_
    refine r_one 4 (by kernel_rfl) rfl ?_
    refine s_call (xs := [_, _]) rfl rfl rfl rfl rfl rfl (by kernel_rfl) (fun w hs => enum_c ep _ s.2.2 s.2.1 2 _ w _ _ hv1 hs) ?_
    rintro e w' ⟨v2, rfl, hv2, hs'⟩; refine a_ret ?_ hs'; clear hs'
    obtain ⟨x, hx⟩ : ∃ x, x = stN 2 (fun (q : Sz) x => { q with z := x }) s := ⟨_, rfl⟩
    have ex : [I64 s.1.c, I64 s.1.l, I64 s.1.n, I64 (eNum s.2.1 s.2.2 2).1] = x.1.cells := by rw [hx]; rfl
    change EB G8 v2 (stN 2 (fun (q : Sz) x => { q with z := x }) s).2.1 at hv2
    change Holds _ _ _ _ _ (EyO ep v2 (stN 2 (fun (q : Sz) x => { q with z := x }) s).2.2 :: RqO b1 t12.1 vl (.slice none 0 0) :: (B ++ F)) _
    rw [← hx] at hv2 has hrs hgs hb3 ⊢
    refine r_next (fun w h => (h.sb)) ?_
    refine r_tk 5 rfl rfl (v_build (ps := [_, _]) #[I64 s.1.c, I64 s.1.l, I64 s.1.n, I64 (eNum s.2.1 s.2.2 2).1] rfl (by kernel_rfl)) (fun _ h => (h.sb)) ?_
    refine r_one 6 (by kernel_rfl) rfl ?_
    refine s_litN [_] (z := .agg #[I64 0, I64 0, I64 0, I64 0]) (bs := 32) (e := 81) (sz := 4) (by kernel_rfl) rfl rfl rfl rfl (by simp [Value.cells]) (by decide) (by decide) (by decide) fun b3 => ?_
    refine r_next (fun w h => (h.sb)) ?_
    refine r_one 7 (by kernel_rfl) rfl ?_
    refine s_append (e := 81) (z := .agg #[I64 0, I64 0, I64 0, I64 0]) (sz := 4) (bs := 32) (by kernel_rfl) rfl rfl rfl rfl hoL (Chunk.tail (Chunk.tail (Chunk.tail Chunk.head))) (news := x.1.cells) (by rw [← ex]; exact SV.block .head (by simp [maxLen])) rfl (by decide) rfl (by rw [← ex]; simp [Value.oneCell']) (by first | omega | (simp; omega)) (by first | omega | (simp; omega)) fun u3 B3 hown3 => ?_
    refine c_sub (EyO ep v2 x.2.2 :: RqO b1 t12.1 vl (.slice none 0 0) :: (B3 ++ F)) sbx ?_
    refine r_next (fun w h => (h.sb)) ?_
    refine r_tk 8 rfl rfl (v_field 12 rfl (by kernel_rfl)) (fun _ h => (h.sb)) ?_
    refine r_one 9 (by kernel_rfl) rfl ?_
    refine s_store1 rfl rfl rfl (.tail .head) (by kernel_rfl) (own_one hown3) (by simp) ?_
    refine r_late rfl ?_
    refine r_done (by kernel_rfl) ?_
    change Holds _ _ _ _ _ (RqO b1 t12.1 u3 (.slice none 0 0) :: EyO ep v2 x.2.2 :: (B3 ++ F)) _
    refine c_sub (EyO ep v2 x.2.2 :: RqO b1 t12.1 u3 (.slice none 0 0) :: (B3 ++ F)) sbx ?_
    refine ww ?_
    refine c_cons (s_call (xs := [_]) rfl rfl rfl rfl rfl rfl (by kernel_rfl) (fun w hs => ngoing_c ep v2 x.2.2 _ w _ _ hs) ?_)
    rintro e w' ⟨hs', ⟨hb, rfl⟩ | ⟨hb, rfl⟩⟩
    rotate_left
    · refine a_panic ?_ hs'; clear hs'
      repeat (first | refine x_then_panic ?_ | refine x_block_panic ?_)
      exact f_panic (fun w hs => ⟨G8, hG7.trans hG8, .inr ⟨_, rfl, hb, hb3 hb, hs.sb⟩⟩)
    refine a_ret ?_ hs'; clear hs'
    rw [hb]
    refine ww ?_
    exact n_next (x := (i, G7, v, vl, B)) (i + 1, G8, v2, u3, B3) ⟨by omega, hG7.trans hG8, by rw [has]; exact hv2, by dsimp only; rw [hrs]; exact SzO.snoc hRL (by rw [hrl]; rw [hrl] at hown3; exact hown3), hgs hb⟩ (by dsimp only; omega) ⟨rfl, rfl, rfl, rfl, trivial⟩ rfl sbx
  have hi2 : a.1 = i := by omega
  rw [dqR_all i hi2 hg] at hdm
  have hq := (show dqS t12.1 (gRedd getSz i a.2.1) (gAfter getSz i a.2.1) = dqC zNq (dqR zNq getDl (dqE { t12.1 with ss := gRedd getSz i a.2.1 })) (eNum (gAfter getSz i a.2.1) 0 2) from rfl)
  rw [hq] at hdm
  clear hq
  obtain ⟨q, hq⟩ : ∃ q : Nq, q = { t12.1 with ss := gRedd getSz i a.2.1 } := ⟨_, rfl⟩
  have hqs : q.ss = gRedd getSz i a.2.1 := by rw [hq]
  change Holds _ _ _ _ _ (EyO ep v 0 :: RqO b1 { t12.1 with ss := gRedd getSz i a.2.1 } vl (.slice none 0 0) :: (B ++ F)) _
  rw [← hq] at hdm ⊢
  rw [← hqs] at ho
  generalize gAfter getSz i a.2.1 = ys at hdm hvi
  refine ww ?_
  refine c_cons (s_call (xs := [_]) rfl rfl rfl rfl rfl rfl (by kernel_rfl) (fun w hs => ncount_c ep v 0 ys _ w _ _ hvi hs) ?_)
  have hm0 := eNum_pos ys 0 2
  have hm1 := eNum_2 ys 0
  generalize eNum ys 0 2 = m at hdm hm0 hm1 ⊢
  rintro e w' ⟨vm, hvm, hs', ⟨hb, rfl⟩ | ⟨hb, hb2, rfl⟩ | ⟨hbm1, hbm2, rfl⟩⟩
  · refine a_panic ?_ hs'; clear hs'
    repeat (first | refine x_then_panic ?_ | refine x_block_panic ?_)
    exact f_panic (fun w hs => ⟨G7, hG7, .inr ⟨_, rfl, hb, by rw [hdm]; exact dqC_bad hb, hs.sb⟩⟩)
  · refine a_panic ?_ hs'; clear hs'
    repeat (first | refine x_then_panic ?_ | refine x_block_panic ?_)
    exact f_panic (fun w hs => ⟨G7, hG7, .inr ⟨_, rfl, by decide, by rw [hdm]; exact dqC_long hb (by omega), hs.sb⟩⟩)
  refine a_ret ?_ hs'; clear hs'
  rw [dqC_ok hbm1 (by omega)] at hdm
  rw [hbm1]
  refine ww ?_
  refine c_loop (α := Nat × Value × Value × Hp) (fun x => [(0, Pt ep 0), (1, Pt b1 0), (70, I64 m.1), (71, I64 x.1)]) (fun _ => G7) (fun x => EyO ep x.2.1 0 :: RqO b1 q vl x.2.2.1 :: (x.2.2.2 ++ (B ++ F))) (fun x => (x.1 : Int) ≤ m.1 ∧ EB G7 x.2.1 (gAfter getDl x.1 m.2.1) ∧ DlO G7 x.2.2.1 (gRedd getDl x.1 m.2.1) x.2.2.2 ∧ gGood getDl x.1 m.2.1) (fun x => m.1.toNat - x.1) (0, vm, .slice none 0 0, []) ⟨hm0, hvm, ROwn.zero _ _, trivial⟩ ?_ ?_
  · exact n_at ⟨rfl, rfl, rfl, rfl, trivial⟩ sbx
  rintro ⟨j, v', vk, B'⟩ ⟨hj, hvj, ho', hg'⟩
  dsimp only at hj hvj ho' hg' ⊢
  refine ww ?_
  refine c_cond_d rfl (fun c2 => ?_) (fun c2 => ?_)
  · -- then
    have has := gAfter_snoc getDl j m.2.1
    have hrs := gRedd_snoc getDl j m.2.1
    have hrl := gRedd_len getDl j m.2.1
    have hgs := gGood_snoc getDl j m.2.1 hg'
    have hb3 := fun h => hdm.trans (dqR_bad (z := zNq) (k := dqE q) (n := m.1) j hg' (by omega) h)
    obtain ⟨L, hoL, hRL⟩ := ho'
    refine ww ?_
    refine c_cons (s_call (xs := [_]) rfl rfl rfl rfl rfl rfl (by kernel_rfl) (fun w hs => dget_c ep v' (gAfter getDl j m.2.1) _ w _ _ hvj hs) ?_)
    generalize getDl (gAfter getDl j m.2.1) = r at has hrs hgs hb3 ⊢
    rintro e w' ⟨v3, b3, rfl, hok, hs'⟩; refine a_ret ?_ hs'; clear hs'
    refine ww ?_
    refine c_cons (s_allocA Zd (by kernel_rfl) rfl rfl fun b4 => ?_)
    refine c_cons (s_storeA (vs := (if r.2.2 = 0 then r.1 else zD).cells) rfl rfl rfl .head (by kernel_rfl) (by simp [Value.oneCell']) rfl ?_)
    refine ww ?_
    by_cases hr : r.2.2 = 0
    rotate_left
    · rw [decide_eq_false hr]
      refine c_cons (s_call (xs := [_, _]) rfl rfl rfl rfl rfl rfl (by kernel_rfl) (fun w hs => nmust_f r.2.2 _ w _ _ hs) ?_)
      rintro e w' ⟨rfl, hs'⟩
      refine a_panic ?_ hs'; clear hs'
      repeat (first | refine x_then_panic ?_ | refine x_block_panic ?_)
      exact f_panic (fun w hs => ⟨G7, hG7, .inr ⟨_, rfl, hr, hb3 hr, hs.sb⟩⟩)
    obtain ⟨rfl, hv4⟩ := hok hr
    rw [decide_eq_true hr, if_pos hr]
    refine c_cons (s_call (xs := [_, _]) rfl rfl rfl rfl rfl rfl (by kernel_rfl) (fun w hs => nmust_t r.2.2 _ w _ _ hs) ?_)
    rintro e w' ⟨rfl, hs'⟩; refine a_ret ?_ hs'; clear hs'
    obtain ⟨x, hx⟩ : ∃ x, x = r.1 := ⟨_, rfl⟩
    rw [← hx] at hrs ⊢
    refine ww ?_
    refine c_cons (s_val (v_field 13 rfl (by kernel_rfl)) rfl rfl rfl ?_)
    refine c_cons (s_val (v_load rfl (Cel.tail (Cel.tail (Cel.head rfl))) (by kernel_rfl)) rfl rfl rfl ?_)
    refine c_cons (s_val (v_loadAgg (vs := x.cells) rfl (by kernel_rfl) (by kernel_rfl) rfl (fun j u hj => (Cel.all hj))) rfl rfl rfl ?_)
    refine c_cons (s_litN [_] (z := .agg #[I64 0, I64 0, I64 0, I64 0, I64 0, I64 0, I64 0, I64 0, I64 0, I64 0, I64 0, I64 0, I64 0, I64 0]) (bs := 112) (e := 75) (sz := 14) (by kernel_rfl) rfl rfl rfl rfl (by simp [Value.cells]) (by decide) (by decide) (by decide) fun b5 => ?_)
    refine c_cons (s_append (e := 75) (z := .agg #[I64 0, I64 0, I64 0, I64 0, I64 0, I64 0, I64 0, I64 0, I64 0, I64 0, I64 0, I64 0, I64 0, I64 0]) (sz := 14) (bs := 112) (by kernel_rfl) rfl rfl rfl rfl hoL (Chunk.tail (Chunk.tail (Chunk.tail (Chunk.tail Chunk.head)))) (news := x.cells) (SV.block .head (by simp [maxLen])) rfl (by decide) rfl (by simp [Value.oneCell']) (by first | omega | (simp; omega)) (by first | omega | (simp; omega)) fun u3 B3 hown3 => ?_)
    refine c_sub (EyO ep v3 0 :: RqO b1 q vl vk :: (B3 ++ (B ++ F))) sbx ?_
    refine c_cons (s_val (v_field 13 rfl (by kernel_rfl)) rfl rfl rfl ?_)
    refine c_cons (s_store1 rfl rfl rfl (.tail .head) (by kernel_rfl) (own_one hown3) (by simp) ?_)
    change Holds _ _ _ _ _ (RqO b1 q vl u3 :: EyO ep v3 0 :: (B3 ++ (B ++ F))) _
    refine ww ?_
    exact n_next (x := (j, v', vk, B')) (j + 1, v3, u3, B3) ⟨by omega, by rw [has]; exact hv4, by dsimp only; rw [hrs]; exact DlO.snoc hRL (by rw [hrl]; rw [hrl] at hown3; exact hown3), hgs hr⟩ (by dsimp only; omega) ⟨rfl, rfl, rfl, rfl, trivial⟩ rfl sbx
  have hj2 : m.1 = j := by omega
  rw [dqR_all j hj2 hg'] at hdm
  refine ww ?_
  change Holds _ _ _ _ _ (EyO ep v' 0 :: RqO b1 { q with ds := gRedd getDl j m.2.1 } vl vk :: (B' ++ (B ++ F))) _
  exact f_end0 rfl (fun w hs => ⟨G7, hG7, .inl ⟨v', gAfter getDl j m.2.1, { q with ds := gRedd getDl j m.2.1 }, vl, vk, B, B', rfl, hvj, hdm, ho, ho', hs.sb⟩⟩)
end

section
open Go
set_option linter.unusedVariables false
set_option linter.unusedSimpArgs false
set_option maxHeartbeats 1600000
set_option maxRecDepth 4000
attribute [local irreducible] Code.wp wpList stepK Holds Val wpR Eff Eff0 Code.wpIn wpListIn stepI Exit.then Exit.inBlock bodyPost bodyPostM

theorem ndec_c (vb : Value) (xs : List UInt8) (hxl : xs.length ≤ 1000000) (w0 w : World) (G : Im) (F : Hp) (hvb : EB G vb xs) (hs : Sat w0 w G F) :
    Calls Try.prog 11 #[vb] w fun e w' => ∃ G' vs vd, e = .returned (.tuple #[.agg ((decQ xs).1.cells vs vd).toArray, I64 (decQ xs).2]) ∧ Im.le G G' ∧ RecV 4 SzR G' vs (decQ xs).1.ss ∧ RecV 14 DlR G' vd (decQ xs).1.ds ∧ Sat w0 w' G' F := by
  refine f_enter (vs := [_]) Try.func11 rfl Try.ntmps11 (by simp) hs ?_
  refine ww ?_
  refine c_cons (s_allocA (zNq.cells (.slice none 0 0) (.slice none 0 0)) (by kernel_rfl) rfl rfl fun b1 => ?_)
  refine ww ?_
  refine c_cons (s_allocA (zNq.cells (.slice none 0 0) (.slice none 0 0)) (by kernel_rfl) rfl rfl fun b2 => ?_)
  change Holds _ _ _ _ _ ([RqO b2 zNq (.slice none 0 0) (.slice none 0 0)] ++ (RqO b1 zNq (.slice none 0 0) (.slice none 0 0) :: F)) _
  refine ww ?_
  refine c_cons (s_call (xs := [_, _]) rfl rfl rfl rfl rfl rfl (by kernel_rfl) (fun w hs => nread_c vb xs hxl 41 #[Pt b2 0] (by kernel_rfl)
    (fun G' H' ys bad => ∃ q vs vd B B', bad = 0 ∧ (decQ xs = if 0 < ys.length then (zNq, 3) else (q, 0)) ∧ SzO G' vs q.ss B ∧ DlO G' vd q.ds B' ∧ H' = RqO b2 q vs vd :: (B ++ B'))
    (fun c G' H' => c ≠ 0 ∧ decQ xs = (zNq, c) ∧ H' = []) _ w G [RqO b2 zNq (.slice none 0 0) (.slice none 0 0)] _ hvb hs (fun ep v G1 F w hG1 hv hs => (ndec1_c b2 ep v xs w0 w G1 F hv hs).mono (by
    rintro e w' ⟨G', hG', ⟨v', ys, q, vs, vd, B, B', rfl, hv', hq, ho, ho', hs'⟩ | ⟨c, rfl, h0, hq, hs'⟩⟩
    · exact ⟨G', RqO b2 q vs vd :: (B ++ B'), hG', .inl ⟨v', ys, 0, hv', hs'.sb, rfl, q, vs, vd, B, B', rfl, hq, ho, ho', rfl⟩⟩
    · exact ⟨G', [], hG', .inr ⟨c, hs', rfl, h0, hq, rfl⟩⟩))) ?_)
  rintro e w' ⟨G', H', hG', hs', ⟨ys, bad, rfl, q, vs, vd, B, B', rfl, hq, ho, ho', rfl⟩ | ⟨c, rfl, h0, hq, rfl⟩⟩
  · refine a_ret ?_ hs'; clear hs'
    have e0 : endS ys 0 = if 0 < ys.length then 3 else 0 := if_neg (by decide)
    rw [e0]
    by_cases hy : 0 < ys.length
    · rw [if_pos hy] at hq ⊢
      rw [hq]
      refine ww ?_
      refine c_cond_d rfl (fun c1 => ?_) (fun c1 => absurd c1 (by decide))
      refine ww ?_
      refine c_cons (s_val (v_build (ps := []) (zNq.cells (.slice none 0 0) (.slice none 0 0)).toArray rfl (by kernel_rfl)) rfl rfl rfl ?_)
      refine ww ?_
      refine c_sub (RqO b1 zNq (.slice none 0 0) (.slice none 0 0) :: F) sbx ?_
      refine c_cons (s_storeA (vs := zNq.cells (.slice none 0 0) (.slice none 0 0)) rfl rfl rfl .head (by kernel_rfl) (by simp [Value.oneCell']) rfl ?_)
      refine ww ?_
      exact f_retA1 (vs := zNq.cells (.slice none 0 0) (.slice none 0 0)) rfl rfl rfl (by kernel_rfl) (by kernel_rfl) rfl (fun j u hj => Cel.all hj) (fun w hs => ⟨G', _, _, rfl, hG', RecV.nil, RecV.nil, hs.tl⟩)
    · rw [if_neg hy] at hq ⊢
      rw [hq]
      obtain ⟨L, hoL, hRL⟩ := ho
      obtain ⟨L', hoL', hRL'⟩ := ho'
      refine ww ?_
      refine c_cond_d rfl (fun c1 => absurd c1 (by decide)) (fun c1 => ?_)
      refine ww ?_
      obtain ⟨ad1, cp1, rfl⟩ := hoL.form
      obtain ⟨ad2, cp2, rfl⟩ := hoL'.form
      refine c_cons (s_val (v_loadAgg (vs := q.cells (.slice ad1 q.ss.length cp1) (.slice ad2 q.ds.length cp2)) rfl (by kernel_rfl) (by kernel_rfl) rfl (fun j u hj => (Cel.all hj))) rfl rfl rfl ?_)
      refine c_sub (RqO b1 zNq (.slice none 0 0) (.slice none 0 0) :: (B ++ (B' ++ F))) sbx ?_
      refine c_cons (s_storeA (vs := q.cells (.slice ad1 q.ss.length cp1) (.slice ad2 q.ds.length cp2)) rfl rfl rfl .head (by kernel_rfl) (by simp [Value.oneCell']) rfl ?_)
      refine c_freezeO hoL (Chunk.tail Chunk.head) fun G2 hG2 hsv => ?_
      refine c_freezeO hoL' (Chunk.tail Chunk.head) fun G3 hG3 hsv' => ?_
      refine ww ?_
      exact f_retA1 (vs := q.cells (.slice ad1 q.ss.length cp1) (.slice ad2 q.ds.length cp2)) rfl rfl rfl (by kernel_rfl) (by kernel_rfl) rfl (fun j u hj => Cel.all hj) (fun w hs => ⟨G3, _, _, rfl, hG'.trans (hG2.trans hG3), ⟨L, hsv.up hG3, hRL.mono fun c x => SzR.up _ _ c x (hG2.trans hG3)⟩, ⟨L', hsv', hRL'.mono fun c x => DlR.up _ _ c x (hG2.trans hG3)⟩, hs.tl⟩)
  · refine a_ret ?_ hs'; clear hs'
    rw [hq]
    refine ww ?_
    refine c_cond_d rfl (fun c1 => ?_) (fun c1 => absurd h0 c1)
    refine ww ?_
    refine c_cons (s_val (v_build (ps := []) (zNq.cells (.slice none 0 0) (.slice none 0 0)).toArray rfl (by kernel_rfl)) rfl rfl rfl ?_)
    refine ww ?_
    refine c_sub (RqO b1 zNq (.slice none 0 0) (.slice none 0 0) :: F) sbx ?_
    refine c_cons (s_storeA (vs := zNq.cells (.slice none 0 0) (.slice none 0 0)) rfl rfl rfl .head (by kernel_rfl) (by simp [Value.oneCell']) rfl ?_)
    refine ww ?_
    exact f_retA1 (vs := zNq.cells (.slice none 0 0) (.slice none 0 0)) rfl rfl rfl (by kernel_rfl) (by kernel_rfl) rfl (fun j u hj => Cel.all hj) (fun w hs => ⟨G', _, _, rfl, hG', RecV.nil, RecV.nil, hs.tl⟩)
end
end Go.Proofs.Ytobhlbhklblncaa
