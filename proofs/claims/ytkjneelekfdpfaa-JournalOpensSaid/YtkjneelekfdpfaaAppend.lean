/- Slices of one's own that may grow; literals of slices. -/
import Derived.Test.YtkjneelekfdpfaaRange
namespace Go.Proofs.Ytkjneelekfdpfaa
open Go
set_option linter.unusedVariables false
set_option linter.unusedSimpArgs false

/-- v is a slice of k elements (of sz cells each, of type e) whose block, if there is one, is owned: B. -/
def Own (v : Value) (k : Nat) (L : List Value) (e : TypeId) (sz : Nat) (B : Hp) : Prop :=
  L.length = k * sz ∧ ((∃ ad, v = .slice ad 0 0 ∧ k = 0 ∧ B = []) ∨ ∃ b c sl, v = Sl b 0 k c ∧ c ≤ maxLen ∧ k ≤ c ∧ L.length + sl.length = c * sz ∧ B = [(b, Cs (L ++ sl) e)])

theorem Own.nil (e : TypeId) (sz : Nat) : Own (.slice none 0 0) 0 [] e sz [] := ⟨by simp, .inl ⟨none, rfl, rfl, rfl⟩⟩
theorem Own.zero (ad : Option Addr) (e : TypeId) (sz : Nat) : Own (.slice ad 0 0) 0 [] e sz [] := ⟨by simp, .inl ⟨ad, rfl, rfl, rfl⟩⟩
theorem Own.full {b k sz : Nat} {L : List Value} {e : TypeId} (hl : L.length = k * sz) (hk : k ≤ maxLen) : Own (Sl b 0 k k) k L e sz [(b, Cs L e)] := ⟨hl, .inr ⟨b, k, [], rfl, hk, Nat.le_refl _, by simpa using hl, by simp⟩⟩
theorem Own.form {v : Value} {k : Nat} {L : List Value} {e : TypeId} {sz : Nat} {B : Hp} (h : Own v k L e sz B) : ∃ ad c, v = .slice ad k c := by
  obtain ⟨_, ⟨_, rfl, rfl, _⟩ | ⟨b, c, sl, rfl, _⟩⟩ := h
  · exact ⟨_, _, rfl⟩
  · exact ⟨_, _, rfl⟩

variable {w0 w : World} {G G' : Im} {H H' H1 : Hp}
variable {n : Nat} {ds : List Deferred} {env : Env} {P : Program} {Q : Exit → Act → World → Prop} {R : Act → World → Prop} {ops : Array Oper} {rest : List Oper} {K : Act → World → Prop}

/-- It can be looked at as any other slice. -/
theorem Own.sv {v : Value} {k : Nat} {L : List Value} {e : TypeId} {sz : Nat} {B : Hp} (h : Own v k L e sz B) (hB : ∀ p, p ∈ B → p ∈ H) : SV G H v k L := by
  obtain ⟨hl, ⟨_, rfl, rfl, _⟩ | ⟨b, c, sl, rfl, hc, hkc, _, rfl⟩⟩ := h
  · have : L = [] := List.eq_nil_of_length_eq_zero (by simpa using hl)
    subst this; exact ⟨_, 0, rfl, Nat.le_refl _, by simp [maxLen], .inl ⟨rfl, fun _ => rfl⟩⟩
  · refine ⟨_, c, rfl, hkc, hc, .inr ⟨b, 0, rfl, fun j u hj => ?_⟩⟩
    refine ⟨_, _, _, .inr (hB _ (List.mem_singleton.2 rfl)), ?_⟩
    have hlt : j < L.length := (List.getElem?_eq_some_iff.1 hj).1
    simp only [List.getElem?_toArray, Nat.zero_add]
    rw [List.getElem?_append_left hlt]; exact hj

/-- H is B and H'. -/
def Chunk (B H H' : Hp) : Prop := H.Perm (B ++ H')
theorem Chunk.head {B H : Hp} : Chunk B (B ++ H) H := .refl _
theorem Chunk.one {x : Nat × Obj} {H : Hp} : Chunk [x] (x :: H) H := .refl _
theorem Chunk.none {H : Hp} : Chunk [] H H := .refl _
theorem Chunk.tail {B H H' : Hp} {x : Nat × Obj} (h : Chunk B H H') : Chunk B (x :: H) (x :: H') := (h.cons x).trans (List.perm_middle.symm)
theorem Chunk.app {B C H H' : Hp} (h : Chunk B H H') : Chunk B (C ++ H) (C ++ H') := by
  refine (h.append_left C).trans ?_
  rw [← List.append_assoc, ← List.append_assoc]
  exact (List.perm_append_comm).append_right _
theorem Chunk.mem {B H H' : Hp} (h : Chunk B H H') : ∀ p, p ∈ B → p ∈ H := fun p hp => h.mem_iff.2 (List.mem_append_left _ hp)
theorem Pick.app {b : Nat} {o : Obj} {C H H' : Hp} (h : Pick b o H H') : Pick b o (C ++ H) (C ++ H') := by
  induction C with
  | nil => exact h
  | cons x C ih => exact .tail ih

section
variable {dst : Option Tmp} {d : Nat} {ty : TypeId} {pos : String} {aft : Array Edge} {g : Option (Nat × Bool)}

theorem Split.drop1 (x : Nat × Obj) : ∀ (F : Hp), ∃ R, Split (x :: F) F R
  | [] => ⟨_, .nil⟩
  | (b, o) :: F => let ⟨R, h⟩ := Split.drop1 x F; ⟨R, .cons (.tail .head) rfl h⟩
theorem Split.appL {K R : Hp} : ∀ (B : Hp) {H : Hp}, Split H K R → Split (B ++ H) (B ++ K) R
  | [], _, h => h
  | (b, o) :: B, _, h => .cons .head rfl (Split.appL B h)
theorem Split.mid1 (B F : Hp) (x : Nat × Obj) : ∃ R, Split (B ++ x :: F) (B ++ F) R := let ⟨R, h⟩ := Split.drop1 x F; ⟨R, h.appL B⟩
/-- An own slice's cell is written. -/
theorem Own.set {v : Value} {k j : Nat} {L : List Value} {e : TypeId} {B : Hp} (h : Own v k L e 1 B) (hj : j < k) :
    ∃ b c sl, v = Sl b 0 k c ∧ B = [(b, Cs (L ++ sl) e)] ∧ j < (L ++ sl).length ∧ (L ++ sl)[j]? = L[j]? ∧ ∀ x, Own v k (L.set j x) e 1 [(b, Cs ((L ++ sl).set j x) e)] := by
  obtain ⟨hl, ⟨_, rfl, rfl, rfl⟩ | ⟨b, c, sl, rfl, hc, hkc, hs, rfl⟩⟩ := h
  · omega
  · have hjl : j < L.length := by omega
    refine ⟨b, c, sl, rfl, rfl, by simp; omega, List.getElem?_append_left hjl, fun x => ⟨by simpa using hl, .inr ⟨b, c, sl, rfl, hc, hkc, by simpa using hs, ?_⟩⟩⟩
    rw [List.set_append_left _ _ hjl]
theorem cs_app (l : List Value) (A : Array Value) (e : TypeId) : (Obj.cells (l.toArray ++ A) e (0, 0)) = Cs (l ++ A.toList) e := by
  have : l.toArray ++ A = (l ++ A.toList).toArray := by apply Array.ext'; simp
  rw [this]
theorem e_append {s x : Operand} {t e : TypeId} {z : Value} {sz bs : Nat} {v vx : Value} {k m : Nat} {L news : List Value} {B : Hp}
    (hs : ev env s = some v) (hx : ev env x = some vx) (hown : Own v k L e sz B) (hch : Chunk B H H1) (hsv : SV G H vx m news) (hm : mkB P t = some (e, z, sz, bs)) (hz : z.cells.size = sz) (hsz : 0 < sz)
    (hl : news.length = m * sz) (h1 : ∀ u ∈ news, u.oneCell' = true) (h63 : k + m ≤ 140737488355328) (hb : (k + m) * bs ≤ 140737488355328) :
    Eff P w0 env G H ⟨dst, .call { callee := .builtin .append, args := #[s, x], argTypes := #[t, t] }, ty, pos, aft, g⟩ (fun v' w' => ∃ B', Own v' (k + m) (L ++ news) e sz B' ∧ Sat w0 w' G (B' ++ H1)) := fun a n ds w ht hsat => by
  obtain ⟨i, hu, hi, hzero, hsz', hbs'⟩ := mkB_spec hm
  have hop : ∀ v' w', (Builtin.append_ #[t, t] ty #[v, vx]).run P w = .ok v' w' → (execOp a.eval ⟨dst, .call { callee := .builtin .append, args := #[s, x], argTypes := #[t, t] }, ty, pos, aft, g⟩).run P w = .ok (.value v') w' := fun v' w' hr => by
    simp [execOp, resolve, invoke, builtin, ht.eval hs, ht.eval hx, hr]
  have hsat1 : Sat w0 w G (B ++ H1) := hsat.perm hch
  have hmax : k + m ≤ maxLen := by unfold maxLen; omega
  obtain ⟨ad, c, rfl, hmc, hcm, hcells⟩ := hsv
  by_cases hm0 : m = 0
  · -- nothing is appended
    subst hm0
    have hn : news = [] := List.eq_nil_of_length_eq_zero (by simpa using hl)
    subst hn
    refine ⟨v, w, hop _ _ ?_, B, by simpa using hown, hsat1⟩
    have hfc : (Builtin.firstCells i.size 0 (.slice ad 0 c)).run P w = .ok #[] w := by cases ad <;> simp [Builtin.firstCells, loadCells, loadCellsFrom]
    obtain ⟨_, ⟨ad0, rfl, rfl, _⟩ | ⟨b, c, sl, rfl, _, hkc, _⟩⟩ := hown
    · cases ad0 <;> simp [storeCells, Builtin.append_, run_underlying hu, sizeOf, typeInfo, hi, Builtin.lenOf, hfc]
    · simp [Builtin.append_, run_underlying hu, sizeOf, typeInfo, hi, Builtin.lenOf, hfc, hkc, storeCells]
  rcases hcells with ⟨rfl, _⟩ | ⟨bx, ox, rfl, hcel⟩
  · have : m * sz = 0 := by simpa using hl.symm
    rcases Nat.mul_eq_zero.1 this with h | h <;> omega
  have hnews : ∀ j u, news[j]? = some u → w.cell? ((⟨bx, ox, none⟩ : Addr).add j) = some u := fun j u hj => by rw [addr_add]; exact (hcel j u hj).cell hsat
  have hlL : L.length = k * i.size := by rw [hown.1, hsz']
  have hlN : news.length = m * i.size := by rw [hl, hsz']
  obtain ⟨hlen, ⟨ad0, rfl, rfl, rfl⟩ | ⟨b, cap, sl, rfl, hcap, hkc, hcs, rfl⟩⟩ := hown
  · have hL : L = [] := List.eq_nil_of_length_eq_zero (by simpa using hlen)
    subst hL
    · have hge := grownCap_ge w m 0 e
      have hcm := grownCap_le_maxLen w m 0 e (by unfold maxLen; omega)
      have h2 := (hsat1.drew).alloc (.cells (news.toArray ++ Builtin.zeroCells z.cells (grownCap w m 0 e - m)) e)
      have hsz2 : ([] ++ news).length + (Builtin.zeroCells z.cells (grownCap w m 0 e - m)).toList.length = grownCap w m 0 e * sz := by
        have h2 := size_zeroCells z.cells (grownCap w m 0 e - m)
        rw [← Array.length_toList, hz] at h2
        rw [h2, List.nil_append, hl, ← Nat.add_mul]; congr 1; omega
      have hown' : Own (.slice (some ⟨w.heap.size, 0, none⟩) (0 + m) (grownCap w m 0 e)) (0 + m) ([] ++ news) e sz [(w.heap.size, Cs ([] ++ news ++ (Builtin.zeroCells z.cells (grownCap w m 0 e - m)).toList) e)] :=
        ⟨by simpa using hl, .inr ⟨w.heap.size, _, (Builtin.zeroCells z.cells (grownCap w m 0 e - m)).toList, rfl, hcm, by simpa using hge, hsz2, rfl⟩⟩
      cases ad0 with
      | none =>
        have hr := run_append_nil (P := P) w t ty e i z hu hi hzero ⟨bx, ox, none⟩ m c news hlN hnews (by omega) (by omega) (by rw [hbs']; have := hb; rw [Nat.zero_add] at this; omega)
        rw [cs_app] at hr h2
        rw [Nat.zero_add] at hown' ⊢
        exact ⟨_, _, hop _ _ hr, _, hown', h2⟩
      | some a0 =>
        have hr := run_append_grow (P := P) w t ty e i z hu hi hzero a0 0 0 [] (by simp) (by simp) ⟨bx, ox, none⟩ m c news hlN hnews (by omega) (by omega) (by rw [hbs']; exact growslice_fits (by omega) hb)
        rw [Nat.zero_add] at hr hown' ⊢
        have h3 : ([] : List Value).toArray ++ news.toArray = news.toArray := by simp
        rw [h3, cs_app] at hr
        rw [cs_app] at h2
        exact ⟨_, _, hop _ _ hr, _, hown', h2⟩
  · have hb1 : w.heap[b]? = some (.cells (L ++ sl).toArray e (0, 0)) := hsat1.own _ (List.mem_cons_self ..)
    by_cases hroom : k + m ≤ cap
    · have hfit : k * i.size + news.length ≤ (L ++ sl).toArray.size := by
        simp only [List.size_toArray, List.length_append, hcs]
        rw [hlN, ← Nat.add_mul, hsz']; exact Nat.mul_le_mul_right _ hroom
      have hr := run_append_room (P := P) w t ty e i hu hi b k cap _ hb1 ⟨bx, ox, none⟩ m c news hlN hnews h1 hroom hfit
      have e1 : (L ++ sl).take (k * i.size) = L := by rw [← hlL, List.take_left]
      have e2 : (L ++ sl).drop (k * i.size + news.length) = sl.drop news.length := by rw [← hlL, List.drop_append]; simp
      simp only [e1, e2] at hr
      refine ⟨_, _, hop _ _ hr, _, ⟨by rw [List.length_append, hlen, hl, Nat.add_mul], .inr ⟨b, cap, sl.drop news.length, rfl, hcap, hroom, ?_, rfl⟩⟩, ?_⟩
      · simp only [List.size_toArray, List.length_append] at hfit
        rw [List.length_append, List.length_drop]; omega
      · exact hsat1.upd rfl rfl rfl (by simp) (setRow_heap w b _ _ e (0, 0) hb1) (fun j _ hj => setRow_other w b j _ hj)
    · have holds : ∀ j u, L[j]? = some u → w.cell? ((⟨b, 0, none⟩ : Addr).add j) = some u := fun j u hj => by
        rw [addr_add, cell_of_row w b _ _ _ _ hb1]
        have hlt : j < L.length := (List.getElem?_eq_some_iff.1 hj).1
        simp only [List.getElem?_toArray, Nat.zero_add]
        rw [List.getElem?_append_left hlt]; exact hj
      have hr := run_append_grow (P := P) w t ty e i z hu hi hzero ⟨b, 0, none⟩ k cap L hlL holds ⟨bx, ox, none⟩ m c news hlN hnews (by omega) (by omega) (by rw [hbs']; exact growslice_fits (by omega) hb)
      have hge := grownCap_ge w (k + m) cap e
      have hcm := grownCap_le_maxLen w (k + m) cap e hmax
      refine ⟨_, _, hop _ _ hr, _, ⟨by rw [List.length_append, hlen, hl, Nat.add_mul], .inr ⟨w.heap.size, _, (Builtin.zeroCells z.cells (grownCap w (k + m) cap e - (k + m))).toList, rfl, hcm, hge, ?_, rfl⟩⟩, ?_⟩
      · have h2 := size_zeroCells z.cells (grownCap w (k + m) cap e - (k + m))
        rw [← Array.length_toList, hz] at h2
        show (L ++ news).length + _ = _
        rw [h2, List.length_append, hlen, hl, ← Nat.add_mul, ← Nat.add_mul]; congr 1; omega
      · have h2 := (hsat1.tl.drew).alloc (.cells (L.toArray ++ news.toArray ++ Builtin.zeroCells z.cells (grownCap w (k + m) cap e - (k + m))) e)
        have h3 : L.toArray ++ news.toArray = (L ++ news).toArray := by simp
        rw [h3, cs_app] at h2 ⊢
        exact h2
theorem s_append {s x : Operand} {t e : TypeId} {z : Value} {sz bs : Nat} {v vx : Value} {k m : Nat} {L news : List Value} {B : Hp}
    (hm : mkB P t = some (e, z, sz, bs)) (hs : ev env s = some v) (hx : ev env x = some vx) (hg : gOn ops env ⟨some d, .call { callee := .builtin .append, args := #[s, x], argTypes := #[t, t] }, ty, pos, aft, g⟩ = some true) (hd : Nat.blt d n = true)
    (hown : Own v k L e sz B) (hch : Chunk B H H1) (hsv : SV G H vx m news) (hz : z.cells.size = sz) (hsz : 0 < sz)
    (hl : news.length = m * sz) (h1 : ∀ u ∈ news, u.oneCell' = true) (h63 : k + m ≤ 140737488355328) (hb : (k + m) * bs ≤ 140737488355328)
    (hK : ∀ v' B', Own v' (k + m) (L ++ news) e sz B' → Holds n ds w0 ((d, v') :: env) G (B' ++ H1) K) :
    Holds n ds w0 env G H (stepK P ops Q ⟨some d, .call { callee := .builtin .append, args := #[s, x], argTypes := #[t, t] }, ty, pos, aft, g⟩ K) :=
  s_eff hg rfl hd (e_append hs hx hown hch hsv hm hz hsz hl h1 h63 hb) (fun v' w' ⟨B', ho, hs⟩ => (hK v' B' ho).atw hs)

/-- Given up for good. -/
theorem c_freezeO {v : Value} {k : Nat} {L : List Value} {e : TypeId} {sz : Nat} {B : Hp} (hown : Own v k L e sz B) (hch : Chunk B H H1) (h : ∀ G', Im.le G G' → SV G' [] v k L → Holds n ds w0 env G' H1 R) : Holds n ds w0 env G H R := fun a w ht hs => by
  have hs1 : Sat w0 w G (B ++ H1) := hs.perm hch
  have ho := hown
  obtain ⟨hl, ⟨_, rfl, rfl, rfl⟩ | ⟨b, c, sl, rfl, hc, hkc, _, rfl⟩⟩ := hown
  · have hL : L = [] := List.eq_nil_of_length_eq_zero (by simpa using hl)
    subst hL
    exact h G (Im.le_refl G) (ho.sv (by simp)) a w ht hs1
  · have hb := hs1.sep _ (List.mem_cons_self ..)
    refine h _ (Im.le_add hb) ?_ a w ht hs1.freeze
    refine ⟨_, c, rfl, hkc, hc, .inr ⟨b, 0, rfl, fun j u hj => ⟨_, _, _, .inl (Im.add_self G b _), ?_⟩⟩⟩
    have hlt : j < L.length := (List.getElem?_eq_some_iff.1 hj).1
    simp only [List.getElem?_toArray, Nat.zero_add]
    rw [List.getElem?_append_left hlt]; exact hj

/-! ### Slices of slices -/
section
variable {dst : Option Tmp} {ty : TypeId} {pos : String} {aft : Array Edge} {g : Option (Nat × Bool)}
/-- s[l:h], s of capacity c. -/
def slMid (ad : Option Addr) (c l h s : Nat) : Value := .slice (if c = l then ad else ad.map (·.add (l * s))) (h - l) (c - l)
theorem slMid_zero (ad : Option Addr) (c h s : Nat) : slMid ad c 0 h s = .slice ad h c := by
  unfold slMid
  have : ad.map (·.add (0 * s)) = ad := by cases ad <;> simp [Addr.add]
  rw [this]; simp
theorem v_slHi (h : Nat) {x hi : Operand} {t : TypeId} {ad : Option Addr} {k c : Nat} (hx : ev env x = some (.slice ad k c)) (hh : ev env hi = some (I64 (h : Int))) (hu : (elB P t).isSome = true) (hl : h ≤ c) :
    Val P env G H ⟨dst, .slice t x none (some hi) none, ty, pos, aft, g⟩ (.slice ad h c) := fun a n ds w0 w ht hs => by
  obtain ⟨sz, hu⟩ := Option.isSome_iff_exists.1 hu
  obtain ⟨e, hu, hz⟩ := elB_spec hu
  have h0 : (if c = 0 then ad else ad.map (·.add 0)) = ad := by cases ad <;> simp [Addr.add]
  simp [execOp, Instr.sliceAt, Instr.slice, Instr.sliceBounds, ht.eval hx, ht.eval hh, run_underlying hu, run_sliceBound rfl hl, run_sliceBound rfl (Nat.le_refl h), run_sizeOf' hz, h0]
theorem v_slLo (l s : Nat) {x lo : Operand} {t : TypeId} {ad : Option Addr} {k c : Nat} (hx : ev env x = some (.slice ad k c)) (hh : ev env lo = some (I64 (l : Int))) (hu : elB P t = some s) (hl : l ≤ k) :
    Val P env G H ⟨dst, .slice t x (some lo) none none, ty, pos, aft, g⟩ (slMid ad c l k s) := fun a n ds w0 w ht hs => by
  obtain ⟨e, hu, hz⟩ := elB_spec hu
  simp [execOp, Instr.sliceAt, Instr.slice, Instr.sliceBounds, ht.eval hx, ht.eval hh, run_underlying hu, run_sliceBound rfl hl, run_sizeOf' hz, slMid]
theorem v_slMid (l h s : Nat) {x lo hi : Operand} {t : TypeId} {ad : Option Addr} {k c : Nat} (hx : ev env x = some (.slice ad k c)) (hlo : ev env lo = some (I64 (l : Int))) (hh : ev env hi = some (I64 (h : Int))) (hu : elB P t = some s) (hl : l ≤ h) (hc : h ≤ c) :
    Val P env G H ⟨dst, .slice t x (some lo) (some hi) none, ty, pos, aft, g⟩ (slMid ad c l h s) := fun a n ds w0 w ht hs => by
  obtain ⟨e, hu, hz⟩ := elB_spec hu
  simp [execOp, Instr.sliceAt, Instr.slice, Instr.sliceBounds, ht.eval hx, ht.eval hh, ht.eval hlo, run_underlying hu, run_sliceBound rfl hl, run_sliceBound rfl hc, run_sizeOf' hz, slMid]
end
theorem SV.mid {ad : Option Addr} {k c l h s : Nat} {L : List Value} (hv : SV G H (.slice ad k c) k L) (hl : l ≤ h) (hk : h ≤ k) : SV G H (slMid ad c l h s) (h - l) ((L.drop (l * s)).take ((h - l) * s)) := by
  obtain ⟨ad', c', he, h1, h2, h3⟩ := hv
  cases he
  refine ⟨_, _, rfl, by omega, by omega, ?_⟩
  rcases h3 with ⟨rfl, hn⟩ | ⟨b, o, rfl, hc⟩
  · refine .inl ⟨by simp, fun he => ?_⟩
    by_cases hcl : c = l
    · omega
    · rw [if_neg hcl] at he
      cases ad with
      | none => have := hn rfl; omega
      | some a => cases he
  · by_cases hcl : c = l
    · have : h - l = 0 := by omega
      exact .inl ⟨by rw [this]; simp, fun he => by rw [if_pos hcl] at he; cases he⟩
    · refine .inr ⟨b, o + l * s, by rw [if_neg hcl]; simp [addr_add], fun j u hj => ?_⟩
      rw [List.getElem?_take] at hj
      split at hj
      · rw [List.getElem?_drop] at hj
        have := hc _ _ hj
        rwa [← Nat.add_assoc] at this
      · cases hj
theorem SV.hi {ad : Option Addr} {k c h : Nat} {L : List Value} (s : Nat) (hv : SV G H (.slice ad k c) k L) (hk : h ≤ k) : SV G H (.slice ad h c) h (L.take (h * s)) := by
  have := hv.mid (s := s) (Nat.zero_le h) hk
  rwa [slMid_zero, Nat.sub_zero, Nat.zero_mul, List.drop_zero] at this
theorem SV.lo {ad : Option Addr} {k c l s : Nat} {L : List Value} (hv : SV G H (.slice ad k c) k L) (hl : l ≤ k) (hL : L.length = k * s) : SV G H (slMid ad c l k s) (k - l) (L.drop (l * s)) := by
  have := hv.mid (s := s) hl (Nat.le_refl k)
  rwa [List.take_of_length_le (by rw [List.length_drop, hL, Nat.sub_mul]; exact Nat.le_refl _)] at this

/-! ### Literals of slices -/
def enumP {α : Type} : Nat → List α → List (Nat × α)
  | _, [] => []
  | i, x :: r => (i, x) :: enumP (i + 1) r
theorem enumP_map {α β : Type} (f : α → β) : ∀ (i : Nat) (l : List α), (enumP i l).map (fun p => (p.1, f p.2)) = enumP i (l.map f)
  | _, [] => rfl
  | i, x :: r => by simp [enumP, enumP_map f (i + 1) r]
theorem fill_ones : ∀ (vs : List Value) (pre zs : List Value), (∀ v ∈ vs, v.oneCell' = true) → vs.length ≤ zs.length →
    Instr.fill (fun i => some (i * 1, 1)) (pre ++ zs).toArray (enumP pre.length vs) = some (pre ++ vs ++ zs.drop vs.length).toArray
  | [], pre, zs, _, _ => by simp [enumP, Instr.fill]
  | v :: r, pre, zs, h1, hl => by
    cases zs with
    | nil => simp at hl
    | cons z zs =>
      have hc := cells_one (h1 v (List.mem_cons_self ..))
      have ih := fill_ones r (pre ++ [v]) zs (fun u hu => h1 u (List.mem_cons_of_mem _ hu)) (by simpa using hl)
      simp only [List.length_append, List.length_cons, List.length_nil, Nat.zero_add] at ih
      have hset : (pre ++ z :: zs).set pre.length v = pre ++ [v] ++ zs := by simp
      simp only [enumP, Instr.fill, Nat.mul_one, hc]
      simp [List.zipIdx, hset]
      simpa using ih
/-- []T{x0, x1, ..}, each of one cell. -/
theorem e_lit (xs : List Operand) {t e : TypeId} {z : Value} {bs : Nat} {vs : List Value} (hxs : evl env xs = some vs) (hm : mkB P t = some (e, z, 1, bs)) (hz : z.oneCell' = true) (h1 : ∀ v ∈ vs, v.oneCell' = true) (hl : vs.length = xs.length) (hb : xs.length ≤ 1000) :
    Eff P w0 env G H ⟨dst, .buildSlice t xs.length (enumP 0 xs).toArray, ty, pos, aft, g⟩ (fun u w' => ∃ b, u = Sl b 0 vs.length vs.length ∧ Sat w0 w' G ((b, Cs vs e) :: H)) := fun a n ds w ht hs => by
  obtain ⟨i, hu, hi, hzero, hsz, _⟩ := mkB_spec hm
  have hev := ht.evall hxs
  have hzc := cells_one hz
  have hf := fill_ones vs [] (List.replicate vs.length z) h1 (by simp)
  have hmap : (enumP 0 xs).map (fun p => (p.1, a.eval p.2)) = enumP 0 vs := by rw [enumP_map, hev]
  have hrow : (Array.range vs.length).map (fun j => (#[z] : Array Value)[j % 1]!) = (List.replicate vs.length z).toArray := by
    apply Array.ext
    · simp
    · intro j h1 h2; simp [Nat.mod_one]
  have hns : ¬ vs.length * 1 > 2 ^ 24 := by omega
  refine ⟨Sl w.heap.size 0 vs.length vs.length, w.alloc (Cs vs e), ?_, w.heap.size, rfl, hs.alloc (Cs vs e)⟩
  have hrun : (Instr.buildSlice t vs.length (enumP 0 vs).toArray).run P w = .ok (Sl w.heap.size 0 vs.length vs.length) (w.alloc (Cs vs e)) := by
    simp only [List.nil_append, List.length_nil, List.drop_replicate, Nat.sub_self, List.replicate_zero, List.append_nil] at hf
    unfold Instr.buildSlice
    simp only [Sem.run_bind, run_underlying hu, Result.andThen_ok, sizeOf, typeInfo, run_program, hi, Sem.run_pure, hsz, if_neg hns]
    by_cases h0 : vs.length * 1 = 0
    · have hv : vs = [] := List.eq_nil_of_length_eq_zero (by omega)
      subst hv
      have h5 : ∀ f : Nat → Value, (Array.range 0).map f = #[] := fun f => by apply Array.ext'; simp
      simp [enumP, Instr.fill, newRow, h5]
    · simp only [if_neg h0, Sem.run_bind, zeroValue, typeInfo, run_program, hi, Result.andThen_ok, Sem.run_pure, hzero, hzc]
      have : (Array.range (vs.length * 1)).map (fun j => (#[z] : Array Value)[j % (#[z] : Array Value).size]!) = (List.replicate vs.length z).toArray := by rw [Nat.mul_one]; exact hrow
      rw [this]
      simp only [hf]
      simp [newRow]
  simp only [execOp]
  have e1 : (enumP 0 xs).toArray.map (fun (i, x) => (i, a.eval x)) = (enumP 0 vs).toArray := by
    rw [← hmap]; simp
  rw [e1, ← hl]
  simp [hrun]
theorem s_lit (xs : List Operand) {t e : TypeId} {z : Value} {bs : Nat} {vs : List Value} (hm : mkB P t = some (e, z, 1, bs)) (hxs : evl env xs = some vs) (hg : gOn ops env ⟨some d, .buildSlice t xs.length (enumP 0 xs).toArray, ty, pos, aft, g⟩ = some true) (hd : Nat.blt d n = true)
    (hz : z.oneCell' = true) (h1 : ∀ v ∈ vs, v.oneCell' = true) (hl : vs.length = xs.length) (hb : xs.length ≤ 1000)
    (hK : ∀ b, Holds n ds w0 ((d, Sl b 0 vs.length vs.length) :: env) G ((b, Cs vs e) :: H) K) :
    Holds n ds w0 env G H (stepK P ops Q ⟨some d, .buildSlice t xs.length (enumP 0 xs).toArray, ty, pos, aft, g⟩ K) :=
  s_eff hg rfl hd (e_lit xs hxs hm hz h1 hl hb) (fun v' w' ⟨b, hu, hs⟩ => by subst hu; exact (hK b).atw hs)
end
end Go.Proofs.Ytkjneelekfdpfaa
