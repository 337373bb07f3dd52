/- Functions that range over a function, walked outside of the fence but for the statement's rounds; a byte's last bit. -/
import Derived.Test.YtkjneelekfdpfaaRegIn
import Derived.Test.YtkjneelekfdpfaaOps9
namespace Go.Proofs.Ytkjneelekfdpfaa
open Go
set_option linter.unusedVariables false
set_option linter.unusedSimpArgs false

variable {w0 w : World} {G G' : Im} {H H' H1 : Hp} {r : Option Nat} {m d : Nat}
variable {n : Nat} {ds : List Deferred} {env : Env} {P : Program} {Q : Exit → Act → World → Prop} {ops : Array Oper} {K : Act → World → Prop}
variable {dst : Option Tmp} {ty : TypeId} {pos : String} {aft : Array Edge} {g : Option (Nat × Bool)}

/-- As Q, and no panic. -/
def noPanic (Q : Exit → Act → World → Prop) : Exit → Act → World → Prop
  | .panic _, _, _ => False
  | e, a, w => Q e a w
theorem pk_no : PanicOk (noPanic Q) := fun _ _ _ _ _ h => h.elim
theorem noPanic_le : ∀ e a w, noPanic Q e a w → Q e a w := fun e a w h => by cases e <;> first | exact h | exact h.elim

theorem f_enterM {f : FuncId} {fn : Func} {c : Code} {vs : List Value} {R : Ending → World → Prop} (hf : P.funcs[f]? = some fn) (hb : fn.body = some c) (hn : fn.ntmps = n) (hl : vs.length ≤ n) (hs : Sat w0 w G H)
    (h : Holds n [] w0 (envOf 0 vs) G H (c.wp P (noPanic (bodyPostM (FW none) 0 P fn R)))) : Calls P f vs.toArray w R :=
  fw_back (m := 0) (i_enter hf hb hn hl hs fun a w ht hs => (wpIn_wide (n := 0)).2 (wp_mono (h a w ht hs) noPanic_le))

theorem c_rangeC {β : Type} {g : Operand} {p : Tmp} {assign body : Code} {gf : FuncId} {cap : Array Value} (xs : List Value) (K0 : Hp) (Hj : Nat → Hp) (env1 : Nat → β → Env) (C : Nat → β → Hp)
    (hg : ev env g = some (.func (.func gf) #[] cap)) (hen : entersB P gf = true) (hp : Nat.blt p n = true) (hit : ItSpecK P gf cap G K0 xs) (hK0 : ∀ j p, j ≤ xs.length → p ∈ K0 → p ∈ Hj j)
    (hassign : ∀ (j : Nat) (h : j < xs.length) (l : Nat) (H1 : Hp) (K : Act → World → Prop), (∀ z, Holds n [] w0 (env1 j z) G (C j z ++ H1) K) → Holds n [] w0 ((p, xs[j]) :: env) G H1 (assign.wpIn (FW (some l)) 0 P (Exit.then K (fun _ _ _ => False))))
    (hbody : ∀ (j : Nat) (h : j < xs.length) (l : Nat) (F : Hp) (z : β), Holds n [] w0 (env1 j z) G (C j z ++ (Hj j ++ F)) (body.wpIn (FW (some l)) 0 P (fun e _ w => e = .normal ∧ Sat w0 w G (Hj (j + 1) ++ F))))
    (k : ∀ D, Holds n ({ target := .collected D, args := #[] } :: ds) w0 env G ((D, .deferred (some [])) :: Hj xs.length) (Q .normal)) :
    Holds n ds w0 env G (Hj 0) ((Code.rangeFunc g #[p] assign body).wp P Q) := fun a w ht hs =>
  (wpIn_wide (n := 0)).1 (i_rangeC xs K0 Hj env1 C hg hen (of_blt hp) hit hK0 hassign hbody k a w ht hs)

theorem m_ret1 {fn : Func} {R : Ending → World → Prop} {t : Tmp} {v : Value} (hr : fn.results = #[.tmp t]) (hv : env.lookup t = some v) (hR : ∀ w, Sat w0 w G H → R (.returned v) w) : Holds n [] w0 env G H (noPanic (bodyPostM (FW none) 0 P fn R) .ret) := fun a w ht hs => by
  show LeavesInM _ _ _ _ _ _ _ _ _
  rw [ht.defers]
  exact ⟨_, by rw [results_tmp hr, ht.getD hv], hR w hs⟩
theorem m_ret1D {fn : Func} {R : Ending → World → Prop} {t : Tmp} {v : Value} {D : Nat} (hr : fn.results = #[.tmp t]) (hv : env.lookup t = some v) (hp : Pick D (.deferred (some [])) H H1) (hR : ∀ w, Sat w0 w G H1 → R (.returned v) w) :
    Holds n [{ target := .collected D, args := #[] }] w0 env G H (noPanic (bodyPostM (FW none) 0 P fn R) .ret) := fun a w ht hs => i_ret1 hr hv hp hR a w ht hs

theorem i_allocA (vs : List Value) {t : TypeId} (hz : zeroB P t = some (.agg vs.toArray)) (hg : gOn ops env ⟨some d, .alloc t, ty, pos, aft, g⟩ = some true) (hd : Nat.blt d n = true)
    (k : ∀ b, Holds n ds w0 ((d, Pt b 0) :: env) G ((b, Cs vs t) :: H) K) :
    Holds n ds w0 env G H (stepI r m P ops Q ⟨some d, .alloc t, ty, pos, aft, g⟩ K) := by
  obtain ⟨i, hi, hz⟩ := zeroB_spec hz
  refine i_eff (Φ := fun u w' => ∃ b, u = Pt b 0 ∧ Sat w0 w' G ((b, Cs vs t) :: H)) hg rfl hd rfl (fun a n ds w ht hs => ?_) (fun u w' ⟨b, hu, hs⟩ => by subst hu; exact (k b).atw hs)
  exact ⟨Pt w.heap.size 0, w.alloc (Cs vs t), by simp [execOp, Instr.alloc, zeroValue, typeInfo, hi, hz, newVar, newRow, Value.cells], _, rfl, hs.alloc (Cs vs t)⟩
theorem i_storeAt {t t' : TypeId} {x y : Operand} {b o : Nat} {vs L : List Value} (hg : gOn ops env ⟨none, .store t x y, ty, pos, aft, g⟩ = some true)
    (hx : ev env x = some (Pt b o)) (hy : ev env y = some (.agg vs.toArray)) (hp : Pick b (Cs L t') H H1) (hz : szB P t = some vs.length) (h1 : ∀ u ∈ vs, u.oneCell' = true) (hl : o + vs.length ≤ L.length)
    (k : Holds n ds w0 env G ((b, Cs (L.take o ++ vs ++ L.drop (o + vs.length)) t') :: H1) K) :
    Holds n ds w0 env G H (stepI r m P ops Q ⟨none, .store t x y, ty, pos, aft, g⟩ K) :=
  i_eff0 hg rfl rfl (e_store hx hy hp (by simpa [Value.cells] using hz) (by simpa [Value.cells] using h1) (by simpa [Value.cells] using hl)) (fun w' hs => k.atw (by simpa [Value.cells] using hs))
theorem i_storeA {t t' : TypeId} {x y : Operand} {b : Nat} {vs L : List Value} (hg : gOn ops env ⟨none, .store t x y, ty, pos, aft, g⟩ = some true)
    (hx : ev env x = some (Pt b 0)) (hy : ev env y = some (.agg vs.toArray)) (hp : Pick b (Cs L t') H H1) (hz : szB P t = some vs.length) (h1 : ∀ u ∈ vs, u.oneCell' = true) (hl : vs.length = L.length)
    (k : Holds n ds w0 env G ((b, Cs vs t') :: H1) K) :
    Holds n ds w0 env G H (stepI r m P ops Q ⟨none, .store t x y, ty, pos, aft, g⟩ K) := by
  refine i_storeAt hg hx hy hp hz h1 (by omega) ?_
  rw [List.drop_of_length_le (by omega)]
  simpa using k

theorem v_and1 {x y : Operand} {t t' : TypeId} {p : UInt8} (hx : ev env x = some (B8 p)) (hy : ev env y = some (.int .u8 1)) :
    Val P env G H ⟨dst, .binOp .and t x y t', ty, pos, aft, g⟩ (.int .u8 ((p.toNat % 2 : Nat) : Int)) := fun a n ds w0 w ht hs => by
  have h2 : (binOp .and t (B8 p) (.int .u8 1)).run P w = .ok (.int .u8 (bits .and .u8 (p.toNat : Int) 1)) w := by
    simp [binOp, Op.intBits, bits]
  have h1 : bits .and .u8 (p.toNat : Int) 1 = ((p.toNat % 2 : Nat) : Int) := by
    have key : ∀ q : Fin 256, bits .and .u8 (q.val : Int) 1 = ((q.val % 2 : Nat) : Int) := by decide +kernel
    exact key ⟨p.toNat, p.toNat_lt⟩
  simp only [execOp, eqGuard, ht.eval hx, ht.eval hy, h2, h1]
  simp [eqGuard, h2, h1]
end Go.Proofs.Ytkjneelekfdpfaa
