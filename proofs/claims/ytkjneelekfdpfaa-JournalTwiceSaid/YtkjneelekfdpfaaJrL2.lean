/- The laws of package journal: what is appended or put for all; JournalDies. -/
import Derived.Test.YtkjneelekfdpfaaJrL0
namespace Go.Proofs.Ytkjneelekfdpfaa
open Go
set_option linter.unusedVariables false
set_option linter.unusedSimpArgs false
set_option maxHeartbeats 3200000
section
variable {w0 w : World} {G : Im} {H : Hp} {env : Env} {P : Program} {dst : Option Tmp} {ty : TypeId} {pos : String} {aft : Array Edge} {g : Option (Nat × Bool)}
theorem v_andI {x y : Operand} {t t' : TypeId} {p q : Int} (hx : ev env x = some (I64 p)) (hy : ev env y = some (I64 q)) :
    Val P env G H ⟨dst, .binOp .and t x y t', ty, pos, aft, g⟩ (I64 (bits .and .i64 p q)) := fun a n ds w0 w ht hs => by
  have h2 : (binOp .and t (I64 p) (I64 q)).run P w = .ok (.int .i64 (bits .and .i64 p q)) w := by
    simp [binOp, Op.intBits, bits]
  simp only [execOp, eqGuard, ht.eval hx, ht.eval hy, h2]
  simp [eqGuard, h2]
end
theorem and_mask (p : Int) (m : Nat) (hm : m < 4611686018427387904) : 0 ≤ bits .and .i64 p (m : Int) ∧ bits .and .i64 p (m : Int) ≤ m := by
  have e : bits .and .i64 p (m : Int) = IntKind.i64.wrap ((BitVec.ofInt 64 p &&& BitVec.ofInt 64 (m : Int)).toNat : Int) := rfl
  have h1 : (BitVec.ofInt 64 p &&& BitVec.ofInt 64 (m : Int)).toNat ≤ m := by
    rw [BitVec.toNat_and, ofInt_u64 m (by omega)]
    exact Nat.and_le_right
  rw [e, IntWalk.i64_in _ ⟨by omega, by omega⟩]
  omega
theorem to_ro {G : Im} {v u : Value} {vs : List Value} {hv : List (List UInt8)} {b : List UInt8} {B : Hp} (ho : Own v (0 + vs.length + 1) ([] ++ vs ++ [u]) 31 1 B) (hit : Items G vs hv) (hu : SV G [] u b.length (b.map B8)) : RO G v (hv ++ [b]) B := by
  rw [Nat.zero_add, List.nil_append] at ho
  exact ⟨vs ++ [u], by rw [List.length_append]; exact ho, hit.snoc hu⟩
/-- What came of a record. -/
def Res (n S : Nat) (c : Int) (D : Dk) (J : Jn) (hv tov : List (List UInt8)) : Prop :=
  (c = 0 ∧ Jt n S D J ∧ J.rows = tov) ∨ (c = 5 ∧ Jt n S D J ∧ J.rows = hv) ∨ (c = 14 ∧ J.rows = hv ∧ ∃ J', Td n S D J J' ∧ J'.rows = tov)
theorem Jt.app_res {n S : Nat} {D : Dk} {J : Jn} (h : Jt n S D J) (hn : n ≤ 800) (b : List UInt8) (hb : b.length ≤ 65536) : Res (n + 1) S (appS D J b).2 (appS D J b).1 (appJ D J b) J.rows (J.rows ++ [b]) := by
  rcases h.app hn b hb with ⟨e1, _, e2, e3, _⟩ | ⟨e1, _, e2, e3⟩ | ⟨e1, e2, J', e3, e4⟩
  · exact .inl ⟨e1, e2, e3⟩
  · exact .inr (.inl ⟨e1, by rw [e2, e3]; exact h.up (by omega), by rw [e3]⟩)
  · exact .inr (.inr ⟨e1, by rw [e2], J', by rw [e2]; exact e3, e4⟩)
theorem Jt.rst_res {n S : Nat} {D : Dk} {J : Jn} (h : Jt n S D J) (hn : n ≤ 800) (b : List UInt8) (hb : b.length ≤ 65536) : Res (n + 1) S (rstS D J b).2 (rstS D J b).1 (rstJ D J b) J.rows [b] := by
  rcases h.rst hn b hb with ⟨e1, _, e2, e3, _⟩ | ⟨e1, _, e2, e3⟩ | ⟨e1, e2, J', e3, e4⟩
  · exact .inl ⟨e1, e2, e3⟩
  · exact .inr (.inl ⟨e1, by rw [e2, e3]; exact h.up (by omega), by rw [e3]⟩)
  · exact .inr (.inr ⟨e1, by rw [e2], J', by rw [e2]; exact e3, e4⟩)
/-- Where a round is: it goes on, or died. -/
def At (n S : Nat) (D : Dk) (J : Jn) (hv nx : List (List UInt8)) (op : Bool) : Prop := J.rows = hv ∧ ((Jt n S D J ∧ op = false) ∨ (∃ J', Td n S D J J' ∧ J'.rows = nx ∧ op = true))
theorem At.up {n m S : Nat} {D : Dk} {J : Jn} {hv nx : List (List UInt8)} {op : Bool} (h : At n S D J hv nx op) (hm : n ≤ m) : At m S D J hv nx op := by
  obtain ⟨e, ⟨h1, h2⟩ | ⟨J', h1, h2⟩⟩ := h
  · exact ⟨e, .inl ⟨h1.up hm, h2⟩⟩
  · exact ⟨e, .inr ⟨J', ⟨h1.dead, h1.torn, h1.len, by have := h1.g; omega, by have := h1.g'; omega⟩, h2⟩⟩
theorem At.crash {n S : Nat} {D : Dk} {J : Jn} {hv nx : List (List UInt8)} {op : Bool} (h : At n S D J hv nx op) (ch : List UInt8) : ∃ J', Jt n S (crashS D ch) J' ∧ (J'.rows = hv ∨ (op = true ∧ J'.rows = nx)) := by
  obtain ⟨e, ⟨h1, h2⟩ | ⟨J', h1, h2, h3⟩⟩ := h
  · exact ⟨J, h1.crash ch, .inl e⟩
  · rcases h1.crash ch with h4 | h4
    · exact ⟨J, h4, .inl e⟩
    · exact ⟨J', h4, .inr ⟨h3, h2⟩⟩
structure Ds where
  i : Nat
  G : Im
  D : Dk
  J : Jn
  B : Hp
  Bj : Hp
  vh : Value
  vn : Value
  op : Bool
  hv : List (List UInt8)
  nx : List (List UInt8)
structure Dc where
  G : Im
  D : Dk
  J : Jn
  B : Hp
  Bj : Hp
  vt : Value
  tov : List (List UInt8)
  c : Int
attribute [local irreducible] Code.wp wpList stepK Holds Val wpR Eff Eff0 Code.wpIn wpListIn stepI Exit.then Exit.inBlock bodyPost bodyPostM

theorem dies_c (vl vch : Value) (l : List Jd) (p : UInt8) (ch : List UInt8) (w0 w : World) (G : Im) (F : Hp) (hl : RecV 3 JdR G vl l) (hch : SV G [] vch ch.length (ch.map B8)) (hs : Sat w0 w G F) :
    Calls Try.prog 4 #[vl, B8 p, vch] w fun e w' => ∃ G', e = .returned (.bool true) ∧ Im.le G G' ∧ Sat w0 w' G' F := by
  obtain ⟨adl, cpl, hvl, hl1, hl2⟩ := hl.form
  unfold maxLen at hl2
  obtain ⟨adc, cpc, hvc⟩ := hch.form
  subst hvl hvc
  refine f_enter (vs := [_, _, _]) Try.func4 rfl Try.ntmps4 (by simp) hs ?_
  refine ww ?_
  refine c_cons (s_call (xs := []) rfl rfl rfl rfl rfl rfl (by kernel_rfl) (fun w hs => awake_c _ w _ _ hs) ?_)
  rintro e w' ⟨G0, rfl, hG0, hs'⟩; refine a_ret ?_ hs'; clear hs'
  refine ww ?_
  refine c_cond_f rfl ?_
  refine ww ?_
  refine c_cons (s_call (xs := [_, _]) rfl rfl rfl rfl rfl rfl (by kernel_rfl) (fun w hs => room_c _ l 40 _ w _ _ (hl.up JdR.up hG0) hs) ?_)
  rintro e w' ⟨rfl, hs'⟩; refine a_ret ?_ hs'; clear hs'
  refine ww ?_
  refine c_part_nd 25 _ rfl (fun c2 => ?_) (fun c2 => ?_)
  · refine ww ?_
    refine c_cond_t rfl ?_
    refine ww ?_
    exact f_ret1 rfl rfl (fun w hs => ⟨G0, rfl, hG0, hs⟩)
  obtain ⟨hl40, hb2⟩ := c2
  refine ww ?_
  refine c_cond_d rfl (fun c3 => ?_) (fun c3 => ?_)
  · refine ww ?_
    exact f_ret1 rfl rfl (fun w hs => ⟨G0, rfl, hG0, hs⟩)
  refine ww ?_
  refine c_cons (s_call (xs := [_]) rfl rfl rfl rfl rfl rfl (by kernel_rfl) (fun w hs => new_c 60 (by decide) _ w _ _ hs) ?_)
  rintro e w' ⟨dp, B0, rfl, hD0, hs'⟩; refine a_ret ?_ hs'; clear hs'
  refine ww ?_
  refine c_cons (s_call (xs := [_]) rfl rfl rfl rfl rfl rfl (by kernel_rfl) (fun w hs => format_n dp B0 60 (by decide) hD0 _ w _ _ hs) ?_)
  rintro e w' ⟨G1, jp, Bj1, B1, D1, rfl, hG1, hD1, t1, lv1, hj1, hs'⟩; refine a_ret ?_ hs'; clear hs'
  refine ww ?_
  refine c_cond_f rfl ?_
  refine ww ?_
  refine c_cons (s_val (v_andI rfl rfl) rfl rfl rfl ?_)
  have hm : bits .and .i64 (p.toNat : Int) 127 ≤ 127 := (and_mask (p.toNat : Int) 127 (by decide)).2
  refine c_sub (B1 ++ (Bj1 ++ F)) sbx ?_
  refine c_cons (s_call (xs := [_, _]) rfl rfl rfl rfl rfl rfl (by kernel_rfl) (fun w hs => fuseH_c dp B1 D1 hD1 _ (by omega) _ w _ _ hs) ?_)
  rintro e w' ⟨B2, rfl, hD2, hs'⟩; refine a_ret ?_ hs'; clear hs'
  have t2 := t1.fuse (bits .and .i64 (p.toNat : Int) ((127 : Nat) : Int))
  change DH dp (fuseS D1 (bits .and .i64 (p.toNat : Int) ((127 : Nat) : Int))) B2 at hD2
  generalize fuseS D1 (bits .and .i64 (p.toNat : Int) ((127 : Nat) : Int)) = D2 at t2 hD2
  have hG01 := hG0.trans hG1
  replace hl := hl.up JdR.up hG01
  replace hch := hch.up (H := []) hG01
  refine wn ?_
  refine c_seq ?_
  refine wn ?_
  refine c_seq ?_
  refine wn ?_
  refine c_cut (α := Ds) (fun x => [(2, .slice adc ch.length cpc), (7, Pt dp 0), (11, x.vh), (12, x.vn), (13, .bool x.op)]) (fun x => x.G) (fun x => x.B ++ F) (fun x => Im.le G1 x.G ∧ DH dp x.D x.B ∧ RowsV x.G x.vh x.hv ∧ RowsV x.G x.vn x.nx ∧ At 40 60 x.D x.J x.hv x.nx x.op) ?_ ?_
  · -- the loop
    refine ww ?_
    refine c_loop (α := Ds) (fun x => [(0, .slice adl l.length cpl), (2, .slice adc ch.length cpc), (7, Pt dp 0), (9, Pt jp 0), (11, x.vh), (12, x.vn), (13, .bool x.op), (14, I64 (x.i : Int))]) (fun x => x.G) (fun x => x.Bj ++ (x.B ++ F)) (fun x => x.i ≤ l.length ∧ Im.le G1 x.G ∧ DH dp x.D x.B ∧ JH x.G jp dp x.J x.Bj ∧ RowsV x.G x.vh x.hv ∧ RowsV x.G x.vn x.nx ∧ x.hv.length ≤ x.i ∧ At x.i 60 x.D x.J x.hv x.nx x.op) (fun x => l.length - x.i) ⟨0, G1, D2, J0, B2, Bj1, .slice none 0 0, .slice none 0 0, false, [], []⟩ ⟨Nat.zero_le _, Im.le_refl _, hD2, hj1, RowsV.nil _, RowsV.nil _, Nat.le_refl _, rfl, .inl ⟨t2, rfl⟩⟩ ?_ ?_
    · exact n_at ⟨rfl, rfl, rfl, rfl, rfl, rfl, rfl, rfl, trivial⟩ sbx
    rintro ⟨i, Gi, D, J, B, Bj, vh, vn, op, hv, nx⟩ ⟨hi, hGi, hD, hj, hrh, hrn, hhl, hat⟩
    dsimp only at hi hGi hD hj hrh hrn hhl hat ⊢
    refine ww ?_
    refine c_part_d 54 _ rfl (fun c6 => ?_) (fun c6 => ?_)
    rotate_left
    · refine ww ?_
      refine c_cond_f rfl ?_
      refine ww ?_
      exact n_mid ⟨i, Gi, D, J, B, Bj, vh, vn, op, hv, nx⟩ ⟨hGi, hD, hrh, hrn, hat.up (by omega)⟩ ⟨rfl, rfl, rfl, rfl, rfl, trivial⟩ rfl sbx
    refine c_sub (B ++ (Bj ++ F)) sbx ?_
    refine ww ?_
    refine c_cons (s_call (xs := [_]) rfl rfl rfl rfl rfl rfl (by kernel_rfl) (fun w hs => deadH_c dp B D hD _ w _ _ hs) ?_)
    rintro e w' ⟨rfl, hs'⟩; refine a_ret ?_ hs'; clear hs'
    have hil : i < l.length := by omega
    obtain ⟨erow, hcase⟩ := hat
    rcases hcase with ⟨hJ, rfl⟩ | ⟨J', hTd, hnx, rfl⟩
    rotate_left
    · rw [hTd.dead]
      refine ww ?_
      refine c_cond_f rfl ?_
      refine ww ?_
      exact n_mid ⟨i, Gi, D, J, B, Bj, vh, vn, true, hv, nx⟩ ⟨hGi, hD, hrh, hrn, (show At i 60 D J hv nx true from ⟨erow, .inr ⟨J', hTd, hnx, rfl⟩⟩).up (by omega)⟩ ⟨rfl, rfl, rfl, rfl, rfl, trivial⟩ rfl sbx
    rw [hJ.st.live]
    refine c_sub (Bj ++ (B ++ F)) sbx ?_
    refine ww ?_
    refine c_cond_t rfl ?_
    obtain ⟨x, hx⟩ : ∃ x, l[i]? = some x := ⟨_, List.getElem?_eq_getElem hil⟩
    have hxb : x.b.length ≤ 2000 := hb2 x (List.mem_of_getElem? hx)
    obtain ⟨bl, ol, cl, u, hvl2, hu0, hcel⟩ := Jd.at hl hx
    have hcl : adl = some ⟨bl, ol, none⟩ ∧ cpl = cl := by cases hvl2; exact ⟨rfl, rfl⟩
    obtain ⟨rfl, rfl⟩ := hcl
    have hu1 := hu0.one
    refine ww ?_
    refine c_cons (s_val (v_index 3 rfl rfl (by kernel_rfl) (by omega)) rfl rfl rfl ?_)
    refine c_cons (s_val (v_loadAgg (vs := [I64 x.d, I64 x.n, u]) rfl (by kernel_rfl) (by kernel_rfl) rfl (fun j y hj => hcel _ _ j y hGi hj)) rfl rfl rfl ?_)
    refine c_cons (s_allocA [I64 0, I64 0, .slice none 0 0] (by kernel_rfl) rfl rfl fun b1 => ?_)
    refine c_cons (s_storeA (vs := [I64 x.d, I64 x.n, u]) rfl rfl rfl .head (by kernel_rfl) (fun y hy => by rcases List.mem_cons.1 hy with rfl | hy; exact rfl; rcases List.mem_cons.1 hy with rfl | hy; exact rfl; rw [List.mem_singleton.1 hy]; exact hu1) rfl ?_)
    refine c_freeze .head fun G2 hG2 k1 => ?_
    have hGi2 := hGi.trans hG2
    have hu : SV G2 [] u x.b.length (x.b.map B8) := hu0.up hGi2
    replace hj := hj.up hG2
    replace hrh := hrh.mono hG2
    replace hrn := hrn.mono hG2
    refine ww ?_
    refine c_cons (s_val (v_field 0 rfl (by kernel_rfl)) rfl rfl rfl ?_)
    refine c_cons (s_val (v_load rfl (Cel.imm k1 rfl) (by kernel_rfl)) rfl rfl rfl ?_)
    refine ww ?_
    refine c_cond_d rfl (fun c8 => ?_) (fun c8 => ?_)
    · refine ww ?_
      exact n_next (x := (⟨i, Gi, D, J, B, Bj, vh, vn, false, hv, nx⟩ : Ds)) ⟨i + 1, G2, D, J, B, Bj, vh, vn, false, hv, nx⟩ ⟨by dsimp only; omega, hGi2, hD, hj, hrh, hrn, by dsimp only; omega, erow, .inl ⟨hJ.up (Nat.le_succ _), rfl⟩⟩ (by dsimp only; omega) ⟨rfl, rfl, rfl, rfl, rfl, rfl, rfl, rfl, trivial⟩ rfl sbx
    refine wn ?_
    -- to
    refine c_cut (α := Im × Value) (fun y => [(0, .slice (some ⟨bl, ol, none⟩) l.length cpl), (2, .slice adc ch.length cpc), (7, Pt dp 0), (9, Pt jp 0), (11, vh), (12, vn), (13, .bool false), (14, I64 (i : Int)), (15, Pt b1 0), (16, y.2)]) (fun y => y.1) (fun y => Bj ++ (B ++ F)) (fun y => Im.le G2 y.1 ∧ RowsV y.1 y.2 (hv ++ [x.b])) ?_ ?_
    · obtain ⟨vs, hsvh, hith⟩ := id hrh
      have hvsl := hith.1
      refine ww ?_
      refine r_startS [] [] (by kernel_rfl) (fun w h => h.none) ?_
      refine r_tk 1 rfl rfl (v_move rfl) (fun _ h => h.none) ?_
      refine r_tk 3 rfl rfl (v_field 2 rfl (by kernel_rfl)) (fun _ h => h.none) ?_
      refine r_tk 4 rfl rfl (v_load rfl (Cel.imm k1 rfl) (by kernel_rfl)) (fun _ h => h.none) ?_
      refine r_two 0 5 (by kernel_rfl) rfl rfl ?_ ?_
      · refine s_lit0 (e := 31) (z := .slice none 0 0) (sz := 1) (bs := 24) (by kernel_rfl) rfl rfl fun b2 => ?_
        refine r_next (fun w h => h.none) ?_
        refine r_two 2 5 (by kernel_rfl) rfl rfl ?_ ?_
        · refine s_append (e := 31) (z := .slice none 0 0) (sz := 1) (bs := 24) (by kernel_rfl) rfl rfl rfl rfl (Own.full (L := []) (k := 0) rfl (Nat.zero_le _)) Chunk.one (hsvh.mono (Im.le_refl _) (by simp)) rfl (by decide) (by omega) hith.one (by simp; omega) (by simp; omega) fun u3 B3 ho3 => ?_
          refine c_sub (B3 ++ (Bj ++ (B ++ F))) sbx ?_
          refine r_next (fun w h => h.none) ?_
          refine r_one 5 (by kernel_rfl) rfl ?_
          refine s_lit (z := .slice none 0 0) (bs := 24) (e := 31) [_] (by kernel_rfl) rfl rfl rfl rfl (by simpa using hu.one) rfl (by decide) fun b4 => ?_
          refine r_next (fun w h => h.none) ?_
          refine r_one 6 (by kernel_rfl) rfl ?_
          refine c_sub ((b4, Cs [u] 31) :: (B3 ++ (Bj ++ (B ++ F)))) sbx ?_
          refine s_append (e := 31) (z := .slice none 0 0) (sz := 1) (bs := 24) (by kernel_rfl) rfl rfl rfl rfl ho3 (Chunk.tail Chunk.head) (SV.block .head (by simp [maxLen])) rfl (by decide) rfl (by simpa using hu.one) (by simp; omega) (by simp; omega) fun u5 B5 ho5 => ?_
          refine c_sub (B5 ++ (Bj ++ (B ++ F))) sbx ?_
          refine r_next (fun w h => h.none) ?_
          refine r_tk 7 rfl rfl (v_assign rfl) (fun _ h => h.none) ?_
          refine r_done (by kernel_rfl) ?_
          refine ww ?_
          refine (to_ro ho5 hith hu).freeze Chunk.head fun G7 hG7 hto => ?_
          exact n_mid (G7, u5) ⟨hG7, hto⟩ ⟨rfl, rfl, rfl, rfl, rfl, rfl, rfl, rfl, rfl, rfl, trivial⟩ rfl sbx
        · refine s_lit (z := .slice none 0 0) (bs := 24) (e := 31) [_] (by kernel_rfl) rfl rfl rfl rfl (by simpa using hu.one) rfl (by decide) fun b4 => ?_
          refine r_next (fun w h => h.none) ?_
          refine c_sub ((b2, Cs [] 31) :: (b4, Cs [u] 31) :: (Bj ++ (B ++ F))) sbx ?_
          refine r_one 2 (by kernel_rfl) rfl ?_
          refine s_append (e := 31) (z := .slice none 0 0) (sz := 1) (bs := 24) (by kernel_rfl) rfl rfl rfl rfl (Own.full (L := []) (k := 0) rfl (Nat.zero_le _)) Chunk.one (hsvh.mono (Im.le_refl _) (by simp)) rfl (by decide) (by omega) hith.one (by simp; omega) (by simp; omega) fun u3 B3 ho3 => ?_
          refine r_next (fun w h => h.none) ?_
          refine r_one 6 (by kernel_rfl) rfl ?_
          refine c_sub ((b4, Cs [u] 31) :: (B3 ++ (Bj ++ (B ++ F)))) sbx ?_
          refine s_append (e := 31) (z := .slice none 0 0) (sz := 1) (bs := 24) (by kernel_rfl) rfl rfl rfl rfl ho3 (Chunk.tail Chunk.head) (SV.block .head (by simp [maxLen])) rfl (by decide) rfl (by simpa using hu.one) (by simp; omega) (by simp; omega) fun u5 B5 ho5 => ?_
          refine c_sub (B5 ++ (Bj ++ (B ++ F))) sbx ?_
          refine r_next (fun w h => h.none) ?_
          refine r_tk 7 rfl rfl (v_assign rfl) (fun _ h => h.none) ?_
          refine r_done (by kernel_rfl) ?_
          refine ww ?_
          refine (to_ro ho5 hith hu).freeze Chunk.head fun G7 hG7 hto => ?_
          exact n_mid (G7, u5) ⟨hG7, hto⟩ ⟨rfl, rfl, rfl, rfl, rfl, rfl, rfl, rfl, rfl, rfl, trivial⟩ rfl sbx
      · refine s_lit (z := .slice none 0 0) (bs := 24) (e := 31) [_] (by kernel_rfl) rfl rfl rfl rfl (by simpa using hu.one) rfl (by decide) fun b4 => ?_
        refine r_next (fun w h => h.none) ?_
        refine r_one 0 (by kernel_rfl) rfl ?_
        refine s_lit0 (e := 31) (z := .slice none 0 0) (sz := 1) (bs := 24) (by kernel_rfl) rfl rfl fun b2 => ?_
        refine r_next (fun w h => h.none) ?_
        refine r_one 2 (by kernel_rfl) rfl ?_
        refine s_append (e := 31) (z := .slice none 0 0) (sz := 1) (bs := 24) (by kernel_rfl) rfl rfl rfl rfl (Own.full (L := []) (k := 0) rfl (Nat.zero_le _)) Chunk.one (hsvh.mono (Im.le_refl _) (by simp)) rfl (by decide) (by omega) hith.one (by simp; omega) (by simp; omega) fun u3 B3 ho3 => ?_
        refine r_next (fun w h => h.none) ?_
        refine r_one 6 (by kernel_rfl) rfl ?_
        refine c_sub ((b4, Cs [u] 31) :: (B3 ++ (Bj ++ (B ++ F)))) sbx ?_
        refine s_append (e := 31) (z := .slice none 0 0) (sz := 1) (bs := 24) (by kernel_rfl) rfl rfl rfl rfl ho3 (Chunk.tail Chunk.head) (SV.block .head (by simp [maxLen])) rfl (by decide) rfl (by simpa using hu.one) (by simp; omega) (by simp; omega) fun u5 B5 ho5 => ?_
        refine c_sub (B5 ++ (Bj ++ (B ++ F))) sbx ?_
        refine r_next (fun w h => h.none) ?_
        refine r_tk 7 rfl rfl (v_assign rfl) (fun _ h => h.none) ?_
        refine r_done (by kernel_rfl) ?_
        refine ww ?_
        refine (to_ro ho5 hith hu).freeze Chunk.head fun G7 hG7 hto => ?_
        exact n_mid (G7, u5) ⟨hG7, hto⟩ ⟨rfl, rfl, rfl, rfl, rfl, rfl, rfl, rfl, rfl, rfl, trivial⟩ rfl sbx
    rintro ⟨G3, vt⟩ ⟨hG3, hto⟩
    dsimp only at hG3 hto ⊢
    replace k1 := hG3 _ _ k1
    have hu3 := hu.up (H := []) hG3
    replace hj := hj.up hG3
    replace hrh := hrh.mono hG3
    replace hrn := hrn.mono hG3
    have hGi3 := hGi2.trans hG3
    have hsm := hJ.sm (show i ≤ 800 by omega)
    refine wn ?_
    refine c_seq ?_
    refine wn ?_
    -- done
    refine c_cut (α := Dc) (fun y => [(0, .slice (some ⟨bl, ol, none⟩) l.length cpl), (2, .slice adc ch.length cpc), (7, Pt dp 0), (9, Pt jp 0), (11, vh), (12, vn), (13, .bool false), (14, I64 (i : Int)), (16, y.vt), (17, I64 y.c)]) (fun y => y.G) (fun y => y.Bj ++ (y.B ++ F)) (fun y => Im.le G3 y.G ∧ DH dp y.D y.B ∧ JH y.G jp dp y.J y.Bj ∧ RowsV y.G y.vt y.tov ∧ y.tov.length ≤ i + 1 ∧ Res (i + 1) 60 y.c y.D y.J hv y.tov) ?_ ?_
    · refine ww ?_
      refine c_cons (s_val (v_field 0 rfl (by kernel_rfl)) rfl rfl rfl ?_)
      refine c_cons (s_val (v_load rfl (Cel.imm k1 rfl) (by kernel_rfl)) rfl rfl rfl ?_)
      refine ww ?_
      refine c_cond_d rfl (fun c9 => ?_) (fun c9 => ?_)
      · have hres := hJ.app_res (show i ≤ 800 by omega) x.b (by omega)
        rw [erow] at hres
        refine ww ?_
        refine c_cons (s_val (v_field 2 rfl (by kernel_rfl)) rfl rfl rfl ?_)
        refine c_cons (s_val (v_load rfl (Cel.imm k1 rfl) (by kernel_rfl)) rfl rfl rfl ?_)
        refine c_cons (s_call (xs := [_, _]) rfl rfl rfl rfl rfl rfl (by kernel_rfl) (fun w hs => jappend_c jp dp B Bj D hD hJ.hl J hJ.wj u x.b (by omega) hsm.1 hsm.2 _ w _ _ hj hu3 hs) ?_)
        rintro e w' ⟨G4, B4, Bj4, hG4, rfl, hD4, hj4, hs'⟩; refine a_ret ?_ hs'; clear hs'
        refine ww ?_
        exact n_mid ⟨G4, _, _, B4, Bj4, vt, hv ++ [x.b], _⟩ ⟨hG4, hD4, hj4, hto.mono hG4, by dsimp only; rw [List.length_append, List.length_singleton]; omega, hres⟩ ⟨rfl, rfl, rfl, rfl, rfl, rfl, rfl, rfl, rfl, rfl, trivial⟩ rfl sbx
      have hres := hJ.rst_res (show i ≤ 800 by omega) x.b (by omega)
      rw [erow] at hres
      refine ww ?_
      refine c_cons (s_val (v_field 2 rfl (by kernel_rfl)) rfl rfl rfl ?_)
      refine c_cons (s_val (v_load rfl (Cel.imm k1 rfl) (by kernel_rfl)) rfl rfl rfl ?_)
      refine c_cons (s_lit (z := .slice none 0 0) (bs := 24) (e := 31) [_] (by kernel_rfl) rfl rfl rfl rfl (by simpa using hu1) rfl (by decide) fun b6 => ?_)
      refine c_freeze .head fun G4 hG4 k4 => ?_
      replace k1 := hG4 _ _ k1
      have hone : RowsV G4 (Sl b6 0 1 1) [x.b] := RwS.sv (vs := [u]) (sl := []) k4 (by simp [maxLen]) (((Items.zero G3).snoc hu3).mono hG4)
      refine ww ?_
      refine c_cons (s_val (v_field 2 rfl (by kernel_rfl)) rfl rfl rfl ?_)
      refine c_cons (s_val (v_load rfl (Cel.imm k1 rfl) (by kernel_rfl)) rfl rfl rfl ?_)
      refine c_cons (s_call (xs := [_, _]) rfl rfl rfl rfl rfl rfl (by kernel_rfl) (fun w hs => jreset_c jp dp B Bj D hD hJ.hl J hJ.wj u x.b (by omega) hsm.1 hsm.2 _ w _ _ (hj.up hG4) (hu3.up hG4) hs) ?_)
      rintro e w' ⟨G5, B5, Bj5, hG5, rfl, hD5, hj5, hs'⟩; refine a_ret ?_ hs'; clear hs'
      refine ww ?_
      exact n_mid ⟨G5, _, _, B5, Bj5, Sl b6 0 1 1, [x.b], _⟩ ⟨hG4.trans hG5, hD5, hj5, hone.mono hG5, by simp, hres⟩ ⟨rfl, rfl, rfl, rfl, rfl, rfl, rfl, rfl, rfl, rfl, trivial⟩ rfl sbx
    rintro ⟨G6, D6, J6, B6, Bj6, vt6, tov, c⟩ ⟨hG6, hD6, hj6, hto6, htl, hres⟩
    dsimp only at hG6 hD6 hj6 hto6 htl hres ⊢
    replace hrh := hrh.mono hG6
    replace hrn := hrn.mono hG6
    have hGi6 := hGi3.trans hG6
    refine ww ?_
    refine c_cond_d rfl (fun c10 => ?_) (fun c10 => ?_)
    · rcases hres with ⟨r1, r2, r3⟩ | ⟨r1, _⟩ | ⟨r1, _⟩
      · refine ww ?_
        exact n_next (x := (⟨i, Gi, D, J, B, Bj, vh, vn, false, hv, nx⟩ : Ds)) ⟨i + 1, G6, D6, J6, B6, Bj6, vt6, vn, false, tov, nx⟩ ⟨by dsimp only; omega, hGi6, hD6, hj6, hto6, hrn, by dsimp only; omega, r3, .inl ⟨r2, rfl⟩⟩ (by dsimp only; omega) ⟨rfl, rfl, rfl, rfl, rfl, rfl, rfl, rfl, trivial⟩ rfl sbx
      · exfalso; omega
      · exfalso; omega
    refine c_sub (B6 ++ (Bj6 ++ F)) sbx ?_
    refine ww ?_
    refine c_cons (s_call (xs := [_]) rfl rfl rfl rfl rfl rfl (by kernel_rfl) (fun w hs => deadH_c dp B6 D6 hD6 _ w _ _ hs) ?_)
    rintro e w' ⟨rfl, hs'⟩; refine a_ret ?_ hs'; clear hs'
    rcases hres with ⟨r1, _⟩ | ⟨r1, r2, r3⟩ | ⟨r1, r2, J', r3, r4⟩
    · exfalso; omega
    · rw [r2.st.live]
      refine ww ?_
      refine c_cond_f rfl ?_
      refine ww ?_
      exact n_next (x := (⟨i, Gi, D, J, B, Bj, vh, vn, false, hv, nx⟩ : Ds)) ⟨i + 1, G6, D6, J6, B6, Bj6, vh, vn, false, hv, nx⟩ ⟨by dsimp only; omega, hGi6, hD6, hj6, hrh, hrn, by dsimp only; omega, r3, .inl ⟨r2, rfl⟩⟩ (by dsimp only; omega) ⟨rfl, rfl, rfl, rfl, rfl, rfl, rfl, rfl, trivial⟩ rfl sbx
    · rw [r3.dead]
      refine ww ?_
      refine c_cond_t rfl ?_
      refine ww ?_
      exact n_next (x := (⟨i, Gi, D, J, B, Bj, vh, vn, false, hv, nx⟩ : Ds)) ⟨i + 1, G6, D6, J6, B6, Bj6, vh, vt6, true, hv, tov⟩ ⟨by dsimp only; omega, hGi6, hD6, hj6, hrh, hto6, by dsimp only; omega, r2, .inr ⟨J', r3, r4, rfl⟩⟩ (by dsimp only; omega) ⟨rfl, rfl, rfl, rfl, rfl, rfl, rfl, rfl, trivial⟩ rfl sbx
  rintro ⟨i, Gi, D, J, B, Bj, vh, vn, op, hv, nx⟩ ⟨hGi, hD, hrh, hrn, hat⟩
  dsimp only at hGi hD hrh hrn hat ⊢
  obtain ⟨J', hJ, hor⟩ := hat.crash ch
  refine ww ?_
  refine c_cons (s_call (xs := [_, _]) rfl rfl rfl rfl rfl rfl (by kernel_rfl) (fun w hs => crash_c dp B D hD _ ch _ w _ F (hch.mono hGi (fun _ hp => by cases hp)) hs) ?_)
  rintro e w' ⟨cp, C1, rfl, hC1, hs'⟩; refine a_ret ?_ hs'; clear hs'
  generalize crashS D ch = D9 at hJ hC1
  refine c_cons (s_call (xs := [_]) rfl rfl rfl rfl rfl rfl (by kernel_rfl) (fun w hs => open_y cp C1 D9 hC1 hJ _ w _ _ hs) ?_)
  rintro e w' ⟨G7, jq, Bj7, rfl, hG7, hj7, hs'⟩; refine a_ret ?_ hs'; clear hs'
  refine ww ?_
  refine c_kt 104 rfl (by decide) ?_
  refine ww ?_
  have hw := hJ.wj
  refine c_cons (s_call (xs := [_]) rfl rfl rfl rfl rfl rfl (by kernel_rfl) (fun w hs => jall_c jq cp Bj7 J' hw.n hw.r _ w _ _ hj7 hs) ?_)
  rintro e w' ⟨G8, u8', rfl, hG8, hu8, hs'⟩; refine a_ret ?_ hs'; clear hs'
  refine ww ?_
  refine c_cons (s_call (xs := [_, _]) rfl rfl rfl rfl rfl rfl (by kernel_rfl) (fun w hs => rowsD_c _ _ J'.rows hv _ w _ _ hu8 (hrh.mono (hG7.trans hG8)) hs) ?_)
  rintro e w' ⟨rfl, hs'⟩; refine a_ret ?_ hs'; clear hs'
  refine ww ?_
  refine c_part_d 109 _ rfl (fun c15 => ?_) (fun c15 => ?_)
  · refine ww ?_
    exact f_ret1 rfl rfl (fun w hs => ⟨_, rfl, hG01.trans (hGi.trans (hG7.trans hG8)), hs.sb⟩)
  obtain ⟨rfl, hnx⟩ := hor.resolve_left c15
  refine ww ?_
  refine c_cons (s_call (xs := [_]) rfl rfl rfl rfl rfl rfl (by kernel_rfl) (fun w hs => jall_c jq cp Bj7 J' hw.n hw.r _ w _ _ (hj7.up hG8) hs) ?_)
  rintro e w' ⟨G9, u9, rfl, hG9, hu9, hs'⟩; refine a_ret ?_ hs'; clear hs'
  refine ww ?_
  refine c_cons (s_call (xs := [_, _]) rfl rfl rfl rfl rfl rfl (by kernel_rfl) (fun w hs => rowsD_c _ _ J'.rows nx _ w _ _ hu9 (hrn.mono (hG7.trans (hG8.trans hG9))) hs) ?_)
  rintro e w' ⟨rfl, hs'⟩; refine a_ret ?_ hs'; clear hs'
  rw [decide_eq_true hnx]
  refine ww ?_
  exact f_ret1 rfl rfl (fun w hs => ⟨_, rfl, hG01.trans (hGi.trans (hG7.trans (hG8.trans hG9))), hs.sb⟩)
end Go.Proofs.Ytkjneelekfdpfaa
