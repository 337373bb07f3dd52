/- Slices of one's own that may grow; literals of slices. More values: Bools compared, a byte as a number. Whole numbers of any kind as int; slices from the front. Shifts; whole numbers as bytes and as uints. What pens share: a number's bytes; bytes that are owned. Structs that are built, new variables, literals of structs, slices of three bounds, appending to what is full, nil, results that lie in cells. Arrays in memory, structs compared, numbers stepped. Rows of records that lie one behind the other. Slices of records. Blocks in another order, or fewer of them, shown by counting. Regions that draw their order: what only reads is taken ahead of what is written in the end, though what is written waits for it only through others. Slices whose block may be longer than they are; room made by append; structs of five int compared. Own slices whose block may be longer, and that grow. -/
import Derived.Test.YtobhlbhklblncaaK1
import Derived.Laws.Entries
import Derived.Laws.Tables
import Derived.Laws.Pointers
import Derived.Laws.Cover3
import Derived.Great.BuildSlice
import Derived.Laws.StructEq
namespace Go.Proofs.Ytobhlbhklblncaa
section
open Go
set_option linter.unusedVariables false
set_option linter.unusedSimpArgs false

/-- v is a slice of k elements (of sz cells each, of type e) whose block, if there is one, is owned: B. -/
def Own (v : Value) (k : Nat) (L : List Value) (e : TypeId) (sz : Nat) (B : Hp) : Prop :=
  L.length = k * sz ∧ ((∃ ad, v = .slice ad 0 0 ∧ k = 0 ∧ B = []) ∨ ∃ b c sl, v = Sl b 0 k c ∧ c ≤ maxLen ∧ k ≤ c ∧ L.length + sl.length = c * sz ∧ B = [(b, Cs (L ++ sl) e)])

theorem Own.nil (e : TypeId) (sz : Nat) : Own (.slice none 0 0) 0 [] e sz [] := ⟨by simp, .inl ⟨none, rfl, rfl, rfl⟩⟩
theorem Own.zero (ad : Option Addr) (e : TypeId) (sz : Nat) : Own (.slice ad 0 0) 0 [] e sz [] := ⟨by simp, .inl ⟨ad, rfl, rfl, rfl⟩⟩
theorem Own.full {b k sz : Nat} {L : List Value} {e : TypeId} (hl : L.length = k * sz) (hk : k ≤ maxLen) : Own (Sl b 0 k k) k L e sz [(b, Cs L e)] := ⟨hl, .inr ⟨b, k, [], rfl, hk, Nat.le_refl _, by simpa using hl, by simp⟩⟩
theorem Own.form {v : Value} {k : Nat} {L : List Value} {e : TypeId} {sz : Nat} {B : Hp} (h : Own v k L e sz B) : ∃ ad c, v = .slice ad k c := by
  obtain ⟨_, ⟨_, rfl, rfl, _⟩ | ⟨b, c, sl, rfl, _⟩⟩ := h
  · exact ⟨_, _, rfl⟩
  · exact ⟨_, _, rfl⟩

variable {w0 w : World} {G G' : Im} {H H' H1 : Hp}
variable {n : Nat} {ds : List Deferred} {env : Env} {P : Program} {Q : Exit → Act → World → Prop} {R : Act → World → Prop} {ops : Array Oper} {rest : List Oper} {K : Act → World → Prop}

/-- It can be looked at as any other slice. -/
theorem Own.sv {v : Value} {k : Nat} {L : List Value} {e : TypeId} {sz : Nat} {B : Hp} (h : Own v k L e sz B) (hB : ∀ p, p ∈ B → p ∈ H) : SV G H v k L := by
  obtain ⟨hl, ⟨_, rfl, rfl, _⟩ | ⟨b, c, sl, rfl, hc, hkc, _, rfl⟩⟩ := h
  · have : L = [] := List.eq_nil_of_length_eq_zero (by simpa using hl)
    subst this; exact ⟨_, 0, rfl, Nat.le_refl _, by simp [maxLen], .inl ⟨rfl, fun _ => rfl⟩⟩
  · refine ⟨_, c, rfl, hkc, hc, .inr ⟨b, 0, rfl, fun j u hj => ?_⟩⟩
    refine ⟨_, _, _, .inr (hB _ (List.mem_singleton.2 rfl)), ?_⟩
    have hlt : j < L.length := (List.getElem?_eq_some_iff.1 hj).1
    simp only [List.getElem?_toArray, Nat.zero_add]
    rw [List.getElem?_append_left hlt]; exact hj

/-- H is B and H'. -/
def Chunk (B H H' : Hp) : Prop := H.Perm (B ++ H')
theorem Chunk.head {B H : Hp} : Chunk B (B ++ H) H := .refl _
theorem Chunk.one {x : Nat × Obj} {H : Hp} : Chunk [x] (x :: H) H := .refl _
theorem Chunk.none {H : Hp} : Chunk [] H H := .refl _
theorem Chunk.tail {B H H' : Hp} {x : Nat × Obj} (h : Chunk B H H') : Chunk B (x :: H) (x :: H') := (h.cons x).trans (List.perm_middle.symm)
theorem Chunk.app {B C H H' : Hp} (h : Chunk B H H') : Chunk B (C ++ H) (C ++ H') := by
  refine (h.append_left C).trans ?_
  rw [← List.append_assoc, ← List.append_assoc]
  exact (List.perm_append_comm).append_right _
theorem Chunk.mem {B H H' : Hp} (h : Chunk B H H') : ∀ p, p ∈ B → p ∈ H := fun p hp => h.mem_iff.2 (List.mem_append_left _ hp)
theorem Pick.app {b : Nat} {o : Obj} {C H H' : Hp} (h : Pick b o H H') : Pick b o (C ++ H) (C ++ H') := by
  induction C with
  | nil => exact h
  | cons x C ih => exact .tail ih

section
variable {dst : Option Tmp} {d : Nat} {ty : TypeId} {pos : String} {aft : Array Edge} {g : Option (Nat × Bool)}

theorem Split.drop1 (x : Nat × Obj) : ∀ (F : Hp), ∃ R, Split (x :: F) F R
  | [] => ⟨_, .nil⟩
  | (b, o) :: F => let ⟨R, h⟩ := Split.drop1 x F; ⟨R, .cons (.tail .head) rfl h⟩
theorem Split.appL {K R : Hp} : ∀ (B : Hp) {H : Hp}, Split H K R → Split (B ++ H) (B ++ K) R
  | [], _, h => h
  | (b, o) :: B, _, h => .cons .head rfl (Split.appL B h)
theorem Split.mid1 (B F : Hp) (x : Nat × Obj) : ∃ R, Split (B ++ x :: F) (B ++ F) R := let ⟨R, h⟩ := Split.drop1 x F; ⟨R, h.appL B⟩
/-- An own slice's cell is written. -/
theorem Own.set {v : Value} {k j : Nat} {L : List Value} {e : TypeId} {B : Hp} (h : Own v k L e 1 B) (hj : j < k) :
    ∃ b c sl, v = Sl b 0 k c ∧ B = [(b, Cs (L ++ sl) e)] ∧ j < (L ++ sl).length ∧ (L ++ sl)[j]? = L[j]? ∧ ∀ x, Own v k (L.set j x) e 1 [(b, Cs ((L ++ sl).set j x) e)] := by
  obtain ⟨hl, ⟨_, rfl, rfl, rfl⟩ | ⟨b, c, sl, rfl, hc, hkc, hs, rfl⟩⟩ := h
  · omega
  · have hjl : j < L.length := by omega
    refine ⟨b, c, sl, rfl, rfl, by simp; omega, List.getElem?_append_left hjl, fun x => ⟨by simpa using hl, .inr ⟨b, c, sl, rfl, hc, hkc, by simpa using hs, ?_⟩⟩⟩
    rw [List.set_append_left _ _ hjl]
theorem cs_app (l : List Value) (A : Array Value) (e : TypeId) : (Obj.cells (l.toArray ++ A) e (0, 0)) = Cs (l ++ A.toList) e := by
  have : l.toArray ++ A = (l ++ A.toList).toArray := by apply Array.ext'; simp
  rw [this]
theorem e_append {s x : Operand} {t e : TypeId} {z : Value} {sz bs : Nat} {v vx : Value} {k m : Nat} {L news : List Value} {B : Hp}
    (hs : ev env s = some v) (hx : ev env x = some vx) (hown : Own v k L e sz B) (hch : Chunk B H H1) (hsv : SV G H vx m news) (hm : mkB P t = some (e, z, sz, bs)) (hz : z.cells.size = sz) (hsz : 0 < sz)
    (hl : news.length = m * sz) (h1 : ∀ u ∈ news, u.oneCell' = true) (h63 : k + m ≤ 140737488355328) (hb : (k + m) * bs ≤ 140737488355328) :
    Eff P w0 env G H ⟨dst, .call { callee := .builtin .append, args := #[s, x], argTypes := #[t, t] }, ty, pos, aft, g⟩ (fun v' w' => ∃ B', Own v' (k + m) (L ++ news) e sz B' ∧ Sat w0 w' G (B' ++ H1)) := fun a n ds w ht hsat => by
  obtain ⟨i, hu, hi, hzero, hsz', hbs'⟩ := mkB_spec hm
  have hop : ∀ v' w', (Builtin.append_ #[t, t] ty #[v, vx]).run P w = .ok v' w' → (execOp a.eval ⟨dst, .call { callee := .builtin .append, args := #[s, x], argTypes := #[t, t] }, ty, pos, aft, g⟩).run P w = .ok (.value v') w' := fun v' w' hr => by
    simp [execOp, resolve, invoke, builtin, ht.eval hs, ht.eval hx, hr]
  have hsat1 : Sat w0 w G (B ++ H1) := hsat.perm hch
  have hmax : k + m ≤ maxLen := by unfold maxLen; omega
  obtain ⟨ad, c, rfl, hmc, hcm, hcells⟩ := hsv
  by_cases hm0 : m = 0
  · -- nothing is appended
    subst hm0
    have hn : news = [] := List.eq_nil_of_length_eq_zero (by simpa using hl)
    subst hn
    refine ⟨v, w, hop _ _ ?_, B, by simpa using hown, hsat1⟩
    have hfc : (Builtin.firstCells i.size 0 (.slice ad 0 c)).run P w = .ok #[] w := by cases ad <;> simp [Builtin.firstCells, loadCells, loadCellsFrom]
    obtain ⟨_, ⟨ad0, rfl, rfl, _⟩ | ⟨b, c, sl, rfl, _, hkc, _⟩⟩ := hown
    · cases ad0 <;> simp [storeCells, Builtin.append_, run_underlying hu, sizeOf, typeInfo, hi, Builtin.lenOf, hfc]
    · simp [Builtin.append_, run_underlying hu, sizeOf, typeInfo, hi, Builtin.lenOf, hfc, hkc, storeCells]
  rcases hcells with ⟨rfl, _⟩ | ⟨bx, ox, rfl, hcel⟩
  · have : m * sz = 0 := by simpa using hl.symm
    rcases Nat.mul_eq_zero.1 this with h | h <;> omega
  have hnews : ∀ j u, news[j]? = some u → w.cell? ((⟨bx, ox, none⟩ : Addr).add j) = some u := fun j u hj => by rw [addr_add]; exact (hcel j u hj).cell hsat
  have hlL : L.length = k * i.size := by rw [hown.1, hsz']
  have hlN : news.length = m * i.size := by rw [hl, hsz']
  obtain ⟨hlen, ⟨ad0, rfl, rfl, rfl⟩ | ⟨b, cap, sl, rfl, hcap, hkc, hcs, rfl⟩⟩ := hown
  · have hL : L = [] := List.eq_nil_of_length_eq_zero (by simpa using hlen)
    subst hL
    · have hge := grownCap_ge w m 0 e
      have hcm := grownCap_le_maxLen w m 0 e (by unfold maxLen; omega)
      have h2 := (hsat1.drew).alloc (.cells (news.toArray ++ Builtin.zeroCells z.cells (grownCap w m 0 e - m)) e)
      have hsz2 : ([] ++ news).length + (Builtin.zeroCells z.cells (grownCap w m 0 e - m)).toList.length = grownCap w m 0 e * sz := by
        have h2 := size_zeroCells z.cells (grownCap w m 0 e - m)
        rw [← Array.length_toList, hz] at h2
        rw [h2, List.nil_append, hl, ← Nat.add_mul]; congr 1; omega
      have hown' : Own (.slice (some ⟨w.heap.size, 0, none⟩) (0 + m) (grownCap w m 0 e)) (0 + m) ([] ++ news) e sz [(w.heap.size, Cs ([] ++ news ++ (Builtin.zeroCells z.cells (grownCap w m 0 e - m)).toList) e)] :=
        ⟨by simpa using hl, .inr ⟨w.heap.size, _, (Builtin.zeroCells z.cells (grownCap w m 0 e - m)).toList, rfl, hcm, by simpa using hge, hsz2, rfl⟩⟩
      cases ad0 with
      | none =>
        have hr := run_append_nil (P := P) w t ty e i z hu hi hzero ⟨bx, ox, none⟩ m c news hlN hnews (by omega) (by omega) (by rw [hbs']; have := hb; rw [Nat.zero_add] at this; omega)
        rw [cs_app] at hr h2
        rw [Nat.zero_add] at hown' ⊢
        exact ⟨_, _, hop _ _ hr, _, hown', h2⟩
      | some a0 =>
        have hr := run_append_grow (P := P) w t ty e i z hu hi hzero a0 0 0 [] (by simp) (by simp) ⟨bx, ox, none⟩ m c news hlN hnews (by omega) (by omega) (by rw [hbs']; exact growslice_fits (by omega) hb)
        rw [Nat.zero_add] at hr hown' ⊢
        have h3 : ([] : List Value).toArray ++ news.toArray = news.toArray := by simp
        rw [h3, cs_app] at hr
        rw [cs_app] at h2
        exact ⟨_, _, hop _ _ hr, _, hown', h2⟩
  · have hb1 : w.heap[b]? = some (.cells (L ++ sl).toArray e (0, 0)) := hsat1.own _ (List.mem_cons_self ..)
    by_cases hroom : k + m ≤ cap
    · have hfit : k * i.size + news.length ≤ (L ++ sl).toArray.size := by
        simp only [List.size_toArray, List.length_append, hcs]
        rw [hlN, ← Nat.add_mul, hsz']; exact Nat.mul_le_mul_right _ hroom
      have hr := run_append_room (P := P) w t ty e i hu hi b k cap _ hb1 ⟨bx, ox, none⟩ m c news hlN hnews h1 hroom hfit
      have e1 : (L ++ sl).take (k * i.size) = L := by rw [← hlL, List.take_left]
      have e2 : (L ++ sl).drop (k * i.size + news.length) = sl.drop news.length := by rw [← hlL, List.drop_append]; simp
      simp only [e1, e2] at hr
      refine ⟨_, _, hop _ _ hr, _, ⟨by rw [List.length_append, hlen, hl, Nat.add_mul], .inr ⟨b, cap, sl.drop news.length, rfl, hcap, hroom, ?_, rfl⟩⟩, ?_⟩
      · simp only [List.size_toArray, List.length_append] at hfit
        rw [List.length_append, List.length_drop]; omega
      · exact hsat1.upd rfl rfl rfl (by simp) (setRow_heap w b _ _ e (0, 0) hb1) (fun j _ hj => setRow_other w b j _ hj)
    · have holds : ∀ j u, L[j]? = some u → w.cell? ((⟨b, 0, none⟩ : Addr).add j) = some u := fun j u hj => by
        rw [addr_add, cell_of_row w b _ _ _ _ hb1]
        have hlt : j < L.length := (List.getElem?_eq_some_iff.1 hj).1
        simp only [List.getElem?_toArray, Nat.zero_add]
        rw [List.getElem?_append_left hlt]; exact hj
      have hr := run_append_grow (P := P) w t ty e i z hu hi hzero ⟨b, 0, none⟩ k cap L hlL holds ⟨bx, ox, none⟩ m c news hlN hnews (by omega) (by omega) (by rw [hbs']; exact growslice_fits (by omega) hb)
      have hge := grownCap_ge w (k + m) cap e
      have hcm := grownCap_le_maxLen w (k + m) cap e hmax
      refine ⟨_, _, hop _ _ hr, _, ⟨by rw [List.length_append, hlen, hl, Nat.add_mul], .inr ⟨w.heap.size, _, (Builtin.zeroCells z.cells (grownCap w (k + m) cap e - (k + m))).toList, rfl, hcm, hge, ?_, rfl⟩⟩, ?_⟩
      · have h2 := size_zeroCells z.cells (grownCap w (k + m) cap e - (k + m))
        rw [← Array.length_toList, hz] at h2
        show (L ++ news).length + _ = _
        rw [h2, List.length_append, hlen, hl, ← Nat.add_mul, ← Nat.add_mul]; congr 1; omega
      · have h2 := (hsat1.tl.drew).alloc (.cells (L.toArray ++ news.toArray ++ Builtin.zeroCells z.cells (grownCap w (k + m) cap e - (k + m))) e)
        have h3 : L.toArray ++ news.toArray = (L ++ news).toArray := by simp
        rw [h3, cs_app] at h2 ⊢
        exact h2
theorem s_append {s x : Operand} {t e : TypeId} {z : Value} {sz bs : Nat} {v vx : Value} {k m : Nat} {L news : List Value} {B : Hp}
    (hm : mkB P t = some (e, z, sz, bs)) (hs : ev env s = some v) (hx : ev env x = some vx) (hg : gOn ops env ⟨some d, .call { callee := .builtin .append, args := #[s, x], argTypes := #[t, t] }, ty, pos, aft, g⟩ = some true) (hd : Nat.blt d n = true)
    (hown : Own v k L e sz B) (hch : Chunk B H H1) (hsv : SV G H vx m news) (hz : z.cells.size = sz) (hsz : 0 < sz)
    (hl : news.length = m * sz) (h1 : ∀ u ∈ news, u.oneCell' = true) (h63 : k + m ≤ 140737488355328) (hb : (k + m) * bs ≤ 140737488355328)
    (hK : ∀ v' B', Own v' (k + m) (L ++ news) e sz B' → Holds n ds w0 ((d, v') :: env) G (B' ++ H1) K) :
    Holds n ds w0 env G H (stepK P ops Q ⟨some d, .call { callee := .builtin .append, args := #[s, x], argTypes := #[t, t] }, ty, pos, aft, g⟩ K) :=
  s_eff hg rfl hd (e_append hs hx hown hch hsv hm hz hsz hl h1 h63 hb) (fun v' w' ⟨B', ho, hs⟩ => (hK v' B' ho).atw hs)

/-- Given up for good. -/
theorem c_freezeO {v : Value} {k : Nat} {L : List Value} {e : TypeId} {sz : Nat} {B : Hp} (hown : Own v k L e sz B) (hch : Chunk B H H1) (h : ∀ G', Im.le G G' → SV G' [] v k L → Holds n ds w0 env G' H1 R) : Holds n ds w0 env G H R := fun a w ht hs => by
  have hs1 : Sat w0 w G (B ++ H1) := hs.perm hch
  have ho := hown
  obtain ⟨hl, ⟨_, rfl, rfl, rfl⟩ | ⟨b, c, sl, rfl, hc, hkc, _, rfl⟩⟩ := hown
  · have hL : L = [] := List.eq_nil_of_length_eq_zero (by simpa using hl)
    subst hL
    exact h G (Im.le_refl G) (ho.sv (by simp)) a w ht hs1
  · have hb := hs1.sep _ (List.mem_cons_self ..)
    refine h _ (Im.le_add hb) ?_ a w ht hs1.freeze
    refine ⟨_, c, rfl, hkc, hc, .inr ⟨b, 0, rfl, fun j u hj => ⟨_, _, _, .inl (Im.add_self G b _), ?_⟩⟩⟩
    have hlt : j < L.length := (List.getElem?_eq_some_iff.1 hj).1
    simp only [List.getElem?_toArray, Nat.zero_add]
    rw [List.getElem?_append_left hlt]; exact hj

/-! ### Slices of slices -/
section
variable {dst : Option Tmp} {ty : TypeId} {pos : String} {aft : Array Edge} {g : Option (Nat × Bool)}
/-- s[l:h], s of capacity c. -/
def slMid (ad : Option Addr) (c l h s : Nat) : Value := .slice (if c = l then ad else ad.map (·.add (l * s))) (h - l) (c - l)
theorem slMid_zero (ad : Option Addr) (c h s : Nat) : slMid ad c 0 h s = .slice ad h c := by
  unfold slMid
  have : ad.map (·.add (0 * s)) = ad := by cases ad <;> simp [Addr.add]
  rw [this]; simp
theorem v_slHi (h : Nat) {x hi : Operand} {t : TypeId} {ad : Option Addr} {k c : Nat} (hx : ev env x = some (.slice ad k c)) (hh : ev env hi = some (I64 (h : Int))) (hu : (elB P t).isSome = true) (hl : h ≤ c) :
    Val P env G H ⟨dst, .slice t x none (some hi) none, ty, pos, aft, g⟩ (.slice ad h c) := fun a n ds w0 w ht hs => by
  obtain ⟨sz, hu⟩ := Option.isSome_iff_exists.1 hu
  obtain ⟨e, hu, hz⟩ := elB_spec hu
  have h0 : (if c = 0 then ad else ad.map (·.add 0)) = ad := by cases ad <;> simp [Addr.add]
  simp [execOp, Instr.sliceAt, Instr.slice, Instr.sliceBounds, ht.eval hx, ht.eval hh, run_underlying hu, run_sliceBound rfl hl, run_sliceBound rfl (Nat.le_refl h), run_sizeOf' hz, h0]
theorem v_slLo (l s : Nat) {x lo : Operand} {t : TypeId} {ad : Option Addr} {k c : Nat} (hx : ev env x = some (.slice ad k c)) (hh : ev env lo = some (I64 (l : Int))) (hu : elB P t = some s) (hl : l ≤ k) :
    Val P env G H ⟨dst, .slice t x (some lo) none none, ty, pos, aft, g⟩ (slMid ad c l k s) := fun a n ds w0 w ht hs => by
  obtain ⟨e, hu, hz⟩ := elB_spec hu
  simp [execOp, Instr.sliceAt, Instr.slice, Instr.sliceBounds, ht.eval hx, ht.eval hh, run_underlying hu, run_sliceBound rfl hl, run_sizeOf' hz, slMid]
theorem v_slMid (l h s : Nat) {x lo hi : Operand} {t : TypeId} {ad : Option Addr} {k c : Nat} (hx : ev env x = some (.slice ad k c)) (hlo : ev env lo = some (I64 (l : Int))) (hh : ev env hi = some (I64 (h : Int))) (hu : elB P t = some s) (hl : l ≤ h) (hc : h ≤ c) :
    Val P env G H ⟨dst, .slice t x (some lo) (some hi) none, ty, pos, aft, g⟩ (slMid ad c l h s) := fun a n ds w0 w ht hs => by
  obtain ⟨e, hu, hz⟩ := elB_spec hu
  simp [execOp, Instr.sliceAt, Instr.slice, Instr.sliceBounds, ht.eval hx, ht.eval hh, ht.eval hlo, run_underlying hu, run_sliceBound rfl hl, run_sliceBound rfl hc, run_sizeOf' hz, slMid]
end
theorem SV.mid {ad : Option Addr} {k c l h s : Nat} {L : List Value} (hv : SV G H (.slice ad k c) k L) (hl : l ≤ h) (hk : h ≤ k) : SV G H (slMid ad c l h s) (h - l) ((L.drop (l * s)).take ((h - l) * s)) := by
  obtain ⟨ad', c', he, h1, h2, h3⟩ := hv
  cases he
  refine ⟨_, _, rfl, by omega, by omega, ?_⟩
  rcases h3 with ⟨rfl, hn⟩ | ⟨b, o, rfl, hc⟩
  · refine .inl ⟨by simp, fun he => ?_⟩
    by_cases hcl : c = l
    · omega
    · rw [if_neg hcl] at he
      cases ad with
      | none => have := hn rfl; omega
      | some a => cases he
  · by_cases hcl : c = l
    · have : h - l = 0 := by omega
      exact .inl ⟨by rw [this]; simp, fun he => by rw [if_pos hcl] at he; cases he⟩
    · refine .inr ⟨b, o + l * s, by rw [if_neg hcl]; simp [addr_add], fun j u hj => ?_⟩
      rw [List.getElem?_take] at hj
      split at hj
      · rw [List.getElem?_drop] at hj
        have := hc _ _ hj
        rwa [← Nat.add_assoc] at this
      · cases hj
theorem SV.hi {ad : Option Addr} {k c h : Nat} {L : List Value} (s : Nat) (hv : SV G H (.slice ad k c) k L) (hk : h ≤ k) : SV G H (.slice ad h c) h (L.take (h * s)) := by
  have := hv.mid (s := s) (Nat.zero_le h) hk
  rwa [slMid_zero, Nat.sub_zero, Nat.zero_mul, List.drop_zero] at this
theorem SV.lo {ad : Option Addr} {k c l s : Nat} {L : List Value} (hv : SV G H (.slice ad k c) k L) (hl : l ≤ k) (hL : L.length = k * s) : SV G H (slMid ad c l k s) (k - l) (L.drop (l * s)) := by
  have := hv.mid (s := s) hl (Nat.le_refl k)
  rwa [List.take_of_length_le (by rw [List.length_drop, hL, Nat.sub_mul]; exact Nat.le_refl _)] at this

/-! ### Literals of slices -/
def enumP {α : Type} : Nat → List α → List (Nat × α)
  | _, [] => []
  | i, x :: r => (i, x) :: enumP (i + 1) r
theorem enumP_map {α β : Type} (f : α → β) : ∀ (i : Nat) (l : List α), (enumP i l).map (fun p => (p.1, f p.2)) = enumP i (l.map f)
  | _, [] => rfl
  | i, x :: r => by simp [enumP, enumP_map f (i + 1) r]
theorem fill_ones : ∀ (vs : List Value) (pre zs : List Value), (∀ v ∈ vs, v.oneCell' = true) → vs.length ≤ zs.length →
    Instr.fill (fun i => some (i * 1, 1)) (pre ++ zs).toArray (enumP pre.length vs) = some (pre ++ vs ++ zs.drop vs.length).toArray
  | [], pre, zs, _, _ => by simp [enumP, Instr.fill]
  | v :: r, pre, zs, h1, hl => by
    cases zs with
    | nil => simp at hl
    | cons z zs =>
      have hc := cells_one (h1 v (List.mem_cons_self ..))
      have ih := fill_ones r (pre ++ [v]) zs (fun u hu => h1 u (List.mem_cons_of_mem _ hu)) (by simpa using hl)
      simp only [List.length_append, List.length_cons, List.length_nil, Nat.zero_add] at ih
      have hset : (pre ++ z :: zs).set pre.length v = pre ++ [v] ++ zs := by simp
      simp only [enumP, Instr.fill, Nat.mul_one, hc]
      simp [List.zipIdx, hset]
      simpa using ih
/-- []T{x0, x1, ..}, each of one cell. -/
theorem e_lit (xs : List Operand) {t e : TypeId} {z : Value} {bs : Nat} {vs : List Value} (hxs : evl env xs = some vs) (hm : mkB P t = some (e, z, 1, bs)) (hz : z.oneCell' = true) (h1 : ∀ v ∈ vs, v.oneCell' = true) (hl : vs.length = xs.length) (hb : xs.length ≤ 1000) :
    Eff P w0 env G H ⟨dst, .buildSlice t xs.length (enumP 0 xs).toArray, ty, pos, aft, g⟩ (fun u w' => ∃ b, u = Sl b 0 vs.length vs.length ∧ Sat w0 w' G ((b, Cs vs e) :: H)) := fun a n ds w ht hs => by
  obtain ⟨i, hu, hi, hzero, hsz, _⟩ := mkB_spec hm
  have hev := ht.evall hxs
  have hzc := cells_one hz
  have hf := fill_ones vs [] (List.replicate vs.length z) h1 (by simp)
  have hmap : (enumP 0 xs).map (fun p => (p.1, a.eval p.2)) = enumP 0 vs := by rw [enumP_map, hev]
  have hrow : (Array.range vs.length).map (fun j => (#[z] : Array Value)[j % 1]!) = (List.replicate vs.length z).toArray := by
    apply Array.ext
    · simp
    · intro j h1 h2; simp [Nat.mod_one]
  have hns : ¬ vs.length * 1 > 2 ^ 24 := by omega
  refine ⟨Sl w.heap.size 0 vs.length vs.length, w.alloc (Cs vs e), ?_, w.heap.size, rfl, hs.alloc (Cs vs e)⟩
  have hrun : (Instr.buildSlice t vs.length (enumP 0 vs).toArray).run P w = .ok (Sl w.heap.size 0 vs.length vs.length) (w.alloc (Cs vs e)) := by
    simp only [List.nil_append, List.length_nil, List.drop_replicate, Nat.sub_self, List.replicate_zero, List.append_nil] at hf
    unfold Instr.buildSlice
    simp only [Sem.run_bind, run_underlying hu, Result.andThen_ok, sizeOf, typeInfo, run_program, hi, Sem.run_pure, hsz, if_neg hns]
    by_cases h0 : vs.length * 1 = 0
    · have hv : vs = [] := List.eq_nil_of_length_eq_zero (by omega)
      subst hv
      have h5 : ∀ f : Nat → Value, (Array.range 0).map f = #[] := fun f => by apply Array.ext'; simp
      simp [enumP, Instr.fill, newRow, h5]
    · simp only [if_neg h0, Sem.run_bind, zeroValue, typeInfo, run_program, hi, Result.andThen_ok, Sem.run_pure, hzero, hzc]
      have : (Array.range (vs.length * 1)).map (fun j => (#[z] : Array Value)[j % (#[z] : Array Value).size]!) = (List.replicate vs.length z).toArray := by rw [Nat.mul_one]; exact hrow
      rw [this]
      simp only [hf]
      simp [newRow]
  simp only [execOp]
  have e1 : (enumP 0 xs).toArray.map (fun (i, x) => (i, a.eval x)) = (enumP 0 vs).toArray := by
    rw [← hmap]; simp
  rw [e1, ← hl]
  simp [hrun]
theorem s_lit (xs : List Operand) {t e : TypeId} {z : Value} {bs : Nat} {vs : List Value} (hm : mkB P t = some (e, z, 1, bs)) (hxs : evl env xs = some vs) (hg : gOn ops env ⟨some d, .buildSlice t xs.length (enumP 0 xs).toArray, ty, pos, aft, g⟩ = some true) (hd : Nat.blt d n = true)
    (hz : z.oneCell' = true) (h1 : ∀ v ∈ vs, v.oneCell' = true) (hl : vs.length = xs.length) (hb : xs.length ≤ 1000)
    (hK : ∀ b, Holds n ds w0 ((d, Sl b 0 vs.length vs.length) :: env) G ((b, Cs vs e) :: H) K) :
    Holds n ds w0 env G H (stepK P ops Q ⟨some d, .buildSlice t xs.length (enumP 0 xs).toArray, ty, pos, aft, g⟩ K) :=
  s_eff hg rfl hd (e_lit xs hxs hm hz h1 hl hb) (fun v' w' ⟨b, hu, hs⟩ => by subst hu; exact (hK b).atw hs)
end
end

section
open Go
set_option linter.unusedVariables false
set_option linter.unusedSimpArgs false
def i64B (P : Program) (t : TypeId) : Bool := match P.underlying t with
  | some (.int .i64) => true
  | _ => false
theorem i64B_spec {P : Program} {t : TypeId} (h : i64B P t = true) : P.underlying t = some (.int .i64) := by
  unfold i64B at h
  split at h
  · assumption
  · cases h
theorem run_equal_bool {P : Program} {w : World} {t : TypeId} (p q : Bool) (hu : P.underlying t = some .bool) : (Op.equal t (.bool p) (.bool q)).run P w = .ok (p == q) w := run_equalIn_bool w 9999 t p q hu
section
variable {w0 w : World} {G G' : Im} {H H1 : Hp} {n : Nat} {ds : List Deferred} {env : Env} {P : Program} {R : Act → World → Prop}
variable {dst : Option Tmp} {ty : TypeId} {pos : String} {aft : Array Edge} {g : Option (Nat × Bool)}
theorem v_eqb {x y : Operand} {t t' : TypeId} {p q : Bool} (hx : ev env x = some (.bool p)) (hy : ev env y = some (.bool q)) (hu : P.underlying t = some .bool) :
    Val P env G H ⟨dst, .binOp .eql t x y t', ty, pos, aft, g⟩ (.bool (p == q)) := fun a n ds w0 w ht hs => by
  simp [execOp, eqGuard, binOp, ht.eval hx, ht.eval hy, run_equal_bool p q hu]
theorem v_eqb_same {x y : Operand} {t t' : TypeId} {p : Bool} (hx : ev env x = some (.bool p)) (hy : ev env y = some (.bool p)) (hu : P.underlying t = some .bool) :
    Val P env G H ⟨dst, .binOp .eql t x y t', ty, pos, aft, g⟩ (.bool true) := by
  have := v_eqb (P := P) (env := env) (G := G) (H := H) (dst := dst) (t' := t') (ty := ty) (pos := pos) (aft := aft) (g := g) hx hy hu
  rwa [BEq.rfl] at this
theorem v_eql_same {x y : Operand} {t t' : TypeId} {k : IntKind} {p : Int} (hx : ev env x = some (.int k p)) (hy : ev env y = some (.int k p)) :
    Val P env G H ⟨dst, .binOp .eql t x y t', ty, pos, aft, g⟩ (.bool true) := by
  have := v_eql (P := P) (env := env) (G := G) (H := H) (dst := dst) (t := t) (t' := t') (ty := ty) (pos := pos) (aft := aft) (g := g) hx hy
  rwa [decide_eq_true rfl] at this
theorem c_part_nd (d : Nat) (p : Prop) [Decidable p] (hd : env.lookup d = some (.bool (!decide p))) (h1 : ¬ p → Holds n ds w0 ((d, .bool true) :: env) G H R) (h2 : p → Holds n ds w0 ((d, .bool false) :: env) G H R) : Holds n ds w0 env G H R :=
  c_part d _ hd (fun e => h1 (by simpa using e)) (fun e => h2 (by simpa using e))
theorem a_ret {d : Tmp} {Q : Exit → Act → World → Prop} {nx : Act → World → Prop} {v : Value} (h : Holds n ds w0 ((d, v) :: env) G H nx) (hs : Sat w0 w G H) : AfterD n ds env d Q nx (.returned v) w := h.atw hs
theorem v_u8int {x : Operand} {s t : TypeId} {q : UInt8} (hx : ev env x = some (B8 q)) (hs : (P.underlying s).isSome = true) (ht' : i64B P t = true) :
    Val P env G H ⟨dst, .convert s t x, ty, pos, aft, g⟩ (I64 q.toNat) := v_toInt hx (Option.isSome_iff_exists.1 hs) (i64B_spec ht') (by
      have := q.toNat_lt
      exact IntWalk.i64_in _ ⟨by omega, by omega⟩)
end
end

section
open Go
set_option linter.unusedVariables false
section
variable {w0 w : World} {G G' : Im} {H H1 : Hp} {n : Nat} {ds : List Deferred} {env : Env} {P : Program} {R : Act → World → Prop}
variable {dst : Option Tmp} {ty : TypeId} {pos : String} {aft : Array Edge} {g : Option (Nat × Bool)}
theorem v_uint {x : Operand} {s t : TypeId} {k : IntKind} {q : Int} (hx : ev env x = some (.int k q)) (hs : (P.underlying s).isSome = true) (ht' : i64B P t = true) (hq : -9223372036854775808 ≤ q ∧ q ≤ 9223372036854775807) :
    Val P env G H ⟨dst, .convert s t x, ty, pos, aft, g⟩ (I64 q) := v_toInt hx (Option.isSome_iff_exists.1 hs) (i64B_spec ht') (IntWalk.i64_in _ ⟨by omega, by omega⟩)
theorem v_neb {x y : Operand} {t t' : TypeId} {p q : Bool} (hx : ev env x = some (.bool p)) (hy : ev env y = some (.bool q)) (hu : P.underlying t = some .bool) :
    Val P env G H ⟨dst, .binOp .neq t x y t', ty, pos, aft, g⟩ (.bool (p != q)) := fun a n ds w0 w ht hs => by
  simp [execOp, eqGuard, binOp, ht.eval hx, ht.eval hy, run_equal_bool p q hu, bne]
end
end

section
open Go
set_option linter.unusedVariables false
set_option linter.unusedSimpArgs false
/-- A number's lowest byte. -/
def u8B (P : Program) (t : TypeId) : Bool := match P.underlying t with
  | some (.int .u8) => true
  | _ => false
theorem u8B_spec {P : Program} {t : TypeId} (h : u8B P t = true) : P.underlying t = some (.int .u8) := by
  unfold u8B at h
  split at h
  · assumption
  · cases h
def u64B (P : Program) (t : TypeId) : Bool := match P.underlying t with
  | some (.int .u64) => true
  | _ => false
theorem u64B_spec {P : Program} {t : TypeId} (h : u64B P t = true) : P.underlying t = some (.int .u64) := by
  unfold u64B at h
  split at h
  · assumption
  · cases h
def lowB (x : Int) : UInt8 := UInt8.ofNat (x % 256).toNat
theorem lowB_val (x : Int) : (B8 (lowB x)) = .int .u8 (x % 256) := by
  have h : ((lowB x).toNat : Int) = x % 256 := by
    unfold lowB
    have h1 := Int.emod_nonneg x (show (256 : Int) ≠ 0 by decide)
    have h2 := Int.emod_lt_of_pos x (show (0 : Int) < 256 by decide)
    simp only [UInt8.toNat_ofNat']
    omega
  show Value.int .u8 ((lowB x).toNat : Int) = _
  rw [h]
section
variable {w0 w : World} {G G' : Im} {H H1 : Hp} {n : Nat} {ds : List Deferred} {env : Env} {P : Program} {R : Act → World → Prop}
variable {dst : Option Tmp} {ty : TypeId} {pos : String} {aft : Array Edge} {g : Option (Nat × Bool)}
theorem v_shr {x y : Operand} {t t' : TypeId} {k : IntKind} {p q : Int} (hx : ev env x = some (I64 p)) (hy : ev env y = some (.int k q)) (h : 0 ≤ q ∧ q ≤ 64) :
    Val P env G H ⟨dst, .binOp .shr t x y t', ty, pos, aft, g⟩ (I64 (p / 2 ^ q.toNat)) := fun a n ds w0 w ht hs => by
  have := shift_shr .i64 k p q h.1 h.2
  simp [execOp, eqGuard, binOp, ht.eval hx, ht.eval hy, this]
theorem v_shl {x y : Operand} {t t' : TypeId} {k : IntKind} {p q : Int} (hx : ev env x = some (I64 p)) (hy : ev env y = some (.int k q)) (h : 0 ≤ q ∧ q ≤ 64) (hr : -9223372036854775808 ≤ p * 2 ^ q.toNat ∧ p * 2 ^ q.toNat ≤ 9223372036854775807) :
    Val P env G H ⟨dst, .binOp .shl t x y t', ty, pos, aft, g⟩ (I64 (p * 2 ^ q.toNat)) := fun a n ds w0 w ht hs => by
  have := shift_shl .i64 k p q h.1 h.2
  have h2 : IntKind.wrap .i64 (p * 2 ^ q.toNat) = p * 2 ^ q.toNat := IntWalk.i64_in _ ⟨by omega, by omega⟩
  rw [h2] at this
  simp only [execOp, eqGuard, binOp, ht.eval hx, ht.eval hy, this]
  rfl
theorem v_byte {x : Operand} {s t : TypeId} {p : Int} (hx : ev env x = some (I64 p)) (hs : (P.underlying s).isSome = true) (ht' : u8B P t = true) :
    Val P env G H ⟨dst, .convert s t x, ty, pos, aft, g⟩ (B8 (lowB p)) := fun a n ds w0 w ht hs' => by
  obtain ⟨d, hd⟩ := Option.isSome_iff_exists.1 hs
  have hw : IntKind.wrap .u8 p = p % 256 := by simp [IntKind.wrap, IntKind.bits, IntKind.signed]
  simp only [execOp, ht.eval hx]
  rw [lowB_val]
  cases d <;> simp [convert, run_underlying hd, run_underlying (u8B_spec ht'), Conv.intToInt, hw]
theorem v_tou {x : Operand} {s t : TypeId} {k : IntKind} {q : Int} (hx : ev env x = some (.int k q)) (hs : (P.underlying s).isSome = true) (ht' : u64B P t = true) (hq : 0 ≤ q ∧ q ≤ 9223372036854775807) :
    Val P env G H ⟨dst, .convert s t x, ty, pos, aft, g⟩ (.int .u64 q) := v_toInt hx (Option.isSome_iff_exists.1 hs) (u64B_spec ht') (by
      simp [IntKind.wrap, IntKind.bits, IntKind.signed]; omega)
end
end

section
open Go
set_option linter.unusedVariables false
set_option linter.unusedSimpArgs false
set_option maxHeartbeats 3200000
attribute [local irreducible] Code.wp wpList stepK Holds Val wpR Eff Eff0 Code.wpIn wpListIn stepI Exit.then Exit.inBlock bodyPost bodyPostM

abbrev OB (v : Value) (xs : List UInt8) (B : Hp) : Prop := Own v xs.length (xs.map B8) 5 1 B
theorem B8_one (xs : List UInt8) : ∀ u ∈ xs.map B8, u.oneCell' = true := by
  intro u hu; simp at hu; obtain ⟨x, _, rfl⟩ := hu; rfl
/-- A number's bytes, the great ones first. -/
def be (x : Int) (n : Nat) : List UInt8 := (List.range n).map fun j => lowB (x / 2 ^ (8 * (n - 1 - j)))
theorem be_len (x : Int) (n : Nat) : (be x n).length = n := by simp [be]
theorem be_snoc (x : Int) (n j : Nat) (h : j < n) : (be x n).take (j + 1) = (be x n).take j ++ [lowB (x / 2 ^ (8 * (n - 1 - j)))] := by
  rw [List.take_succ_eq_append_getElem (by rw [be_len]; exact h)]; simp [be]
theorem pow8 {n : Nat} (h : 1 ≤ n ∧ n ≤ 7) : (256 : Int) ≤ 2 ^ (8 * n) ∧ (2 : Int) ^ (8 * n) ≤ 72057594037927936 := by
  have : n = 1 ∨ n = 2 ∨ n = 3 ∨ n = 4 ∨ n = 5 ∨ n = 6 ∨ n = 7 := by omega
  rcases this with rfl | rfl | rfl | rfl | rfl | rfl | rfl <;> decide
end

section
open Go
set_option linter.unusedVariables false
set_option linter.unusedSimpArgs false

def evp (env : Env) : List (Nat × Operand) → Option (List (Nat × Value))
  | [] => some []
  | (i, x) :: xs => match ev env x, evp env xs with
    | some v, some vs => some ((i, v) :: vs)
    | _, _ => none
theorem TT.evalp {a : Act} {n : Nat} {ds : List Deferred} {env : Env} (h : TT a n ds env) : ∀ {l : List (Nat × Operand)} {vs : List (Nat × Value)}, evp env l = some vs → l.map (fun p => (p.1, a.eval p.2)) = vs
  | [], vs, hx => by simpa [evp] using hx
  | (i, x) :: xs, vs, hx => by
    simp only [evp] at hx
    split at hx
    · rename_i v ws h1 h2
      cases hx
      simp [h.eval h1, h.evalp h2]
    · cases hx

def zeroB (P : Program) (t : TypeId) : Option Value := match P.info? t with
  | some i => i.zero
  | none => none
theorem zeroB_spec {P : Program} {t : TypeId} {z : Value} (h : zeroB P t = some z) : ∃ i, P.info? t = some i ∧ i.zero = some z := by
  unfold zeroB at h; split at h
  · exact ⟨_, by assumption, h⟩
  · cases h
def ptrB (P : Program) (t : TypeId) : Bool := match P.underlying t with
  | some (.pointer _) => true
  | _ => false
theorem ptrB_spec {P : Program} {t : TypeId} (h : ptrB P t = true) : P.underlying t = some (.pointer (P.pointee t)) := by
  unfold ptrB at h; split at h
  · rename_i e he; rw [he]; simp [Program.pointee, he]
  · cases h

section
variable {w0 w : World} {G G' : Im} {H H1 : Hp} {n : Nat} {ds : List Deferred} {env : Env} {P : Program} {R : Act → World → Prop} {ops : Array Oper} {Q : Exit → Act → World → Prop} {K : Act → World → Prop}
variable {dst : Option Tmp} {d : Nat} {ty : TypeId} {pos : String} {aft : Array Edge} {g : Option (Nat × Bool)}

theorem v_build (cells : Array Value) {t : TypeId} {ps : List (Nat × Operand)} {vs : List (Nat × Value)} (hx : evp env ps = some vs) (hb : P.built t vs = some cells) :
    Val P env G H ⟨dst, .build t ps.toArray, ty, pos, aft, g⟩ (.agg cells) := fun a n ds w0 w ht hs => by
  have h1 := ht.evalp hx
  have h2 : (ps.toArray.map fun (i, x) => (i, a.eval x)) = vs.toArray := by rw [← h1]; simp
  simp only [execOp]
  rw [h2]
  simp [run_build w t vs.toArray cells (by simpa using hb)]
theorem v_eqnilP {x y : Operand} {t t' : TypeId} {p : Option Addr} (hx : ev env x = some (.pointer p)) (hy : ev env y = some (.pointer none)) (hu : ptrB P t = true) :
    Val P env G H ⟨dst, .binOp .eql t x y t', ty, pos, aft, g⟩ (.bool p.isNone) := fun a n ds w0 w ht hs => by
  simp [execOp, eqGuard, ht.eval hx, ht.eval hy, run_eql_pointer_nil w t p (ptrB_spec hu)]
theorem v_neqnilP {x y : Operand} {t t' : TypeId} {p : Option Addr} (hx : ev env x = some (.pointer p)) (hy : ev env y = some (.pointer none)) (hu : ptrB P t = true) :
    Val P env G H ⟨dst, .binOp .neq t x y t', ty, pos, aft, g⟩ (.bool (!p.isNone)) := fun a n ds w0 w ht hs => by
  simp [execOp, eqGuard, ht.eval hx, ht.eval hy, run_neq_pointer_nil w t p (ptrB_spec hu)]
theorem v_eqnilS {x y : Operand} {t t' : TypeId} {ad : Option Addr} {k c : Nat} (hx : ev env x = some (.slice ad k c)) (hy : ev env y = some (.slice none 0 0)) (hu : slB P t = true) :
    Val P env G H ⟨dst, .binOp .eql t x y t', ty, pos, aft, g⟩ (.bool ad.isNone) := fun a n ds w0 w ht hs => by
  obtain ⟨e, hu⟩ := slB_spec hu
  have h2 : (binOp .eql t (.slice ad k c) (.slice none 0 0)).run P w = .ok (.bool ad.isNone) w := by
    simp only [binOp]; simp [run_equal_slice_nil w t e ad k c hu]
  simp [execOp, eqGuard, ht.eval hx, ht.eval hy, h2]
theorem v_remT {x y : Operand} {t t' : TypeId} {p q : Int} (hx : ev env x = some (I64 p)) (hy : ev env y = some (I64 q)) (hq : 0 < q ∧ q ≤ 9223372036854775807) :
    Val P env G H ⟨dst, .binOp .rem t x y t', ty, pos, aft, g⟩ (I64 (p.tmod q)) := fun a n ds w0 w ht hs => by
  have h0 : ¬ q = 0 := by omega
  simp [execOp, eqGuard, binOp, Op.intDiv, ht.eval hx, ht.eval hy, h0]
/-- s[:i:i] -/
theorem v_sl3 (i : Nat) {x hi mx : Operand} {t : TypeId} {ad : Option Addr} {k c : Nat} (hx : ev env x = some (.slice ad k c)) (hh : ev env hi = some (I64 (i : Int))) (hm : ev env mx = some (I64 (i : Int))) (hu : (elB P t).isSome = true) (hl : i ≤ c) :
    Val P env G H ⟨dst, .slice t x none (some hi) (some mx), ty, pos, aft, g⟩ (.slice ad i i) := fun a n ds w0 w ht hs => by
  obtain ⟨sz, hu⟩ := Option.isSome_iff_exists.1 hu
  obtain ⟨e, hu, hz⟩ := elB_spec hu
  have h0 : (if i = 0 then ad else ad.map (·.add 0)) = ad := by cases ad <;> simp [Addr.add]
  simp [execOp, Instr.sliceAt, Instr.slice, Instr.sliceBounds, ht.eval hx, ht.eval hh, ht.eval hm, run_underlying hu, run_sliceBound rfl hl, run_sliceBound rfl (Nat.le_refl i), run_sizeOf' hz, h0]

theorem s_alloc (z : Value) {t : TypeId} (hz : zeroB P t = some z) (hg : gOn ops env ⟨some d, .alloc t, ty, pos, aft, g⟩ = some true) (hd : Nat.blt d n = true)
    (k : ∀ b, Holds n ds w0 ((d, Pt b 0) :: env) G ((b, Cs z.cells.toList t) :: H) K) :
    Holds n ds w0 env G H (stepK P ops Q ⟨some d, .alloc t, ty, pos, aft, g⟩ K) := by
  obtain ⟨i, hi, hz⟩ := zeroB_spec hz
  refine s_eff (Φ := fun u w' => ∃ b, u = Pt b 0 ∧ Sat w0 w' G ((b, Cs z.cells.toList t) :: H)) hg rfl hd (fun a n ds w ht hs => ?_) (fun u w' ⟨b, hu, hs⟩ => by subst hu; exact (k b).atw hs)
  exact ⟨Pt w.heap.size 0, w.alloc (Cs z.cells.toList t), by simp [execOp, Instr.alloc, zeroValue, typeInfo, hi, hz, newVar, newRow], _, rfl, hs.alloc (Cs z.cells.toList t)⟩

theorem enumP_zip {α : Type} : ∀ (i : Nat) (l : List α), enumP i l = (l.zipIdx i).map fun x => (x.2, x.1)
  | _, [] => rfl
  | i, x :: r => by simp [enumP, enumP_zip (i + 1) r]
/-- []T{x0, x1, ..}, each of sz cells. -/
theorem e_litN (xs : List Operand) {t e : TypeId} {z : Value} {sz bs : Nat} {vs : List Value} (hxs : evl env xs = some vs) (hm : mkB P t = some (e, z, sz, bs)) (hz : z.cells.size = sz) (h1 : ∀ v ∈ vs, v.cells.size = sz) (hsz : 0 < sz) (h0 : 0 < xs.length) (hb : xs.length * sz ≤ 10000) :
    Eff P w0 env G H ⟨dst, .buildSlice t xs.length (enumP 0 xs).toArray, ty, pos, aft, g⟩ (fun u w' => ∃ b, u = Sl b 0 xs.length xs.length ∧ Sat w0 w' G ((b, Cs (vs.flatMap fun v => v.cells.toList) e) :: H)) := fun a n ds w ht hs => by
  obtain ⟨i, hu, hi, hzero, hs', _⟩ := mkB_spec hm
  have hev := ht.evall hxs
  have hlen : vs.length = xs.length := by rw [← hev]; simp
  have hf := Great.fill_whole hsz vs ((Array.range (xs.length * sz)).map (z.cells[· % z.cells.size]!)) h1 (by simp [hlen])
  refine ⟨Sl w.heap.size 0 xs.length xs.length, w.alloc (Cs (vs.flatMap fun v => v.cells.toList) e), ?_, w.heap.size, rfl, hs.alloc _⟩
  have hp : 0 < xs.length * sz := Nat.mul_pos h0 hsz
  have e1 : (enumP 0 xs).toArray.map (fun (i, x) => (i, a.eval x)) = ((vs.zipIdx 0).map fun x => (x.2, x.1)).toArray := by
    rw [← enumP_zip, ← hev, ← enumP_map]; simp
  simp only [execOp]
  have hr := run_buildSlice (P := P) w t e xs.length ((vs.zipIdx 0).map fun x => (x.2, x.1)).toArray (vs.flatMap fun v => v.cells.toList).toArray i z hu hi hzero (by rw [hs']; omega) (by rw [hs']; omega) (by rw [hs']; exact hf)
  rw [e1]
  simp only [Sem.run_bind, hr, Result.andThen_ok, Sem.run_pure]
theorem s_litN (xs : List Operand) {t e : TypeId} {z : Value} {sz bs : Nat} {vs : List Value} (hm : mkB P t = some (e, z, sz, bs)) (hxs : evl env xs = some vs) (hg : gOn ops env ⟨some d, .buildSlice t xs.length (enumP 0 xs).toArray, ty, pos, aft, g⟩ = some true) (hd : Nat.blt d n = true)
    (hz : z.cells.size = sz) (h1 : ∀ v ∈ vs, v.cells.size = sz) (hsz : 0 < sz) (h0 : 0 < xs.length) (hb : xs.length * sz ≤ 10000)
    (hK : ∀ b, Holds n ds w0 ((d, Sl b 0 xs.length xs.length) :: env) G ((b, Cs (vs.flatMap fun v => v.cells.toList) e) :: H) K) :
    Holds n ds w0 env G H (stepK P ops Q ⟨some d, .buildSlice t xs.length (enumP 0 xs).toArray, ty, pos, aft, g⟩ K) :=
  s_eff hg rfl hd (e_litN xs hxs hm hz h1 hsz h0 hb) (fun v' w' ⟨b, hu, hs⟩ => by subst hu; exact (hK b).atw hs)

/-- Appending to a slice that has no room: new memory. -/
theorem e_appendF {s x : Operand} {t e : TypeId} {z : Value} {sz bs : Nat} {vx : Value} {ad : Option Addr} {k m : Nat} {L news : List Value}
    (hs : ev env s = some (.slice ad k k)) (hx : ev env x = some vx) (hsl : SV G H (.slice ad k k) k L) (hL : L.length = k * sz) (hsv : SV G H vx m news) (hm : mkB P t = some (e, z, sz, bs)) (hz : z.cells.size = sz) (hsz : 0 < sz)
    (hl : news.length = m * sz) (h1 : ∀ u ∈ news, u.oneCell' = true) (h63 : k + m ≤ 140737488355328) (hb : (k + m) * bs ≤ 140737488355328) (hm0 : 0 < m) :
    Eff P w0 env G H ⟨dst, .call { callee := .builtin .append, args := #[s, x], argTypes := #[t, t] }, ty, pos, aft, g⟩
      (fun v' w' => ∃ B', Own v' (k + m) (L ++ news) e sz B' ∧ Sat w0 w' G (B' ++ H)) := fun a n ds w ht hsat => by
  obtain ⟨i, hu, hi, hzero, hsz', hbs'⟩ := mkB_spec hm
  have hop : ∀ v' w', (Builtin.append_ #[t, t] ty #[.slice ad k k, vx]).run P w = .ok v' w' → (execOp a.eval ⟨dst, .call { callee := .builtin .append, args := #[s, x], argTypes := #[t, t] }, ty, pos, aft, g⟩).run P w = .ok (.value v') w' := fun v' w' hr => by
    simp [execOp, resolve, invoke, builtin, ht.eval hs, ht.eval hx, hr]
  have hmax : k + m ≤ maxLen := by unfold maxLen; omega
  obtain ⟨adx, c, rfl, hmc, hcm, hcells⟩ := hsv
  have hms : m * sz ≠ 0 := by intro h; rcases Nat.mul_eq_zero.1 h with h | h <;> omega
  rcases hcells with ⟨rfl, _⟩ | ⟨bx, ox, rfl, hcel⟩
  · exact absurd (by simpa using hl.symm) hms
  have hnews : ∀ j u, news[j]? = some u → w.cell? ((⟨bx, ox, none⟩ : Addr).add j) = some u := fun j u hj => by rw [addr_add]; exact (hcel j u hj).cell hsat
  have hlL : L.length = k * i.size := by rw [hL, hsz']
  have hlN : news.length = m * i.size := by rw [hl, hsz']
  have fresh : ∀ (b c' : Nat) (A : Array Value), k + m ≤ c' → c' ≤ maxLen → A.size = (c' - (k + m)) * sz → Own (Sl b 0 (k + m) c') (k + m) (L ++ news) e sz [(b, Cs (L ++ news ++ A.toList) e)] := fun b c' A h1 h2 h3 =>
    ⟨by rw [List.length_append, hL, hl, Nat.add_mul], .inr ⟨b, c', A.toList, rfl, h2, h1, by rw [List.length_append, hL, hl, ← Nat.add_mul, Array.length_toList, h3, ← Nat.add_mul]; congr 1; omega, rfl⟩⟩
  have hzc : ∀ q, (Builtin.zeroCells z.cells q).size = q * sz := fun q => by rw [← hz]; exact size_zeroCells z.cells q
  cases ad with
  | none =>
    obtain ⟨_, _, he, _, _, h3⟩ := hsl
    cases he
    have hk0 : k = 0 := by
      rcases h3 with ⟨_, h⟩ | ⟨_, _, h, _⟩
      · exact h rfl
      · cases h
    subst hk0
    have hL0 : L = [] := List.eq_nil_of_length_eq_zero (by simpa using hL)
    subst hL0
    have hr := run_append_nil (P := P) w t ty e i z hu hi hzero ⟨bx, ox, none⟩ m c news hlN hnews hm0 (by omega) (by rw [hbs']; have := hb; rw [Nat.zero_add] at this; omega)
    have hge := grownCap_ge w m 0 e
    have hcm := grownCap_le_maxLen w m 0 e (by unfold maxLen; omega)
    have h2 := (hsat.drew).alloc (.cells (news.toArray ++ Builtin.zeroCells z.cells (grownCap w m 0 e - m)) e)
    rw [cs_app] at hr h2
    have h4 := fresh w.heap.size (grownCap w m 0 e) (Builtin.zeroCells z.cells (grownCap w m 0 e - m)) (by omega) hcm (by rw [hzc, Nat.zero_add])
    rw [Nat.zero_add] at h4 ⊢
    exact ⟨_, _, hop _ _ hr, _, h4, h2⟩
  | some b =>
    have holds : ∀ j u, L[j]? = some u → w.cell? (b.add j) = some u := fun j u hj => by
      obtain ⟨_, _, he, _, _, h3⟩ := hsl
      cases he
      rcases h3 with ⟨rfl, _⟩ | ⟨b', o', h, hc⟩
      · simp at hj
      · cases h; rw [addr_add]; exact (hc j u hj).cell hsat
    have hr := run_append_grow (P := P) w t ty e i z hu hi hzero b k k L hlL holds ⟨bx, ox, none⟩ m c news hlN hnews (by omega) (by omega) (by rw [hbs']; exact growslice_fits (by omega) hb)
    have hge := grownCap_ge w (k + m) k e
    have hcm := grownCap_le_maxLen w (k + m) k e hmax
    have h2 := (hsat.drew).alloc (.cells (L.toArray ++ news.toArray ++ Builtin.zeroCells z.cells (grownCap w (k + m) k e - (k + m))) e)
    have h3 : L.toArray ++ news.toArray = (L ++ news).toArray := by simp
    rw [h3] at hr h2
    rw [cs_app] at hr h2
    exact ⟨_, _, hop _ _ hr, _, fresh w.heap.size _ _ hge hcm (hzc _), h2⟩
theorem s_appendF {s x : Operand} {t e : TypeId} {z : Value} {sz bs : Nat} {vx : Value} {ad : Option Addr} {k m : Nat} {L news : List Value}
    (hm : mkB P t = some (e, z, sz, bs)) (hs : ev env s = some (.slice ad k k)) (hx : ev env x = some vx) (hg : gOn ops env ⟨some d, .call { callee := .builtin .append, args := #[s, x], argTypes := #[t, t] }, ty, pos, aft, g⟩ = some true) (hd : Nat.blt d n = true)
    (hsl : SV G H (.slice ad k k) k L) (hL : L.length = k * sz) (hsv : SV G H vx m news) (hz : z.cells.size = sz) (hsz : 0 < sz)
    (hl : news.length = m * sz) (h1 : ∀ u ∈ news, u.oneCell' = true) (h63 : k + m ≤ 140737488355328) (hb : (k + m) * bs ≤ 140737488355328) (hm0 : 0 < m)
    (hK : ∀ v' B', Own v' (k + m) (L ++ news) e sz B' → Holds n ds w0 ((d, v') :: env) G (B' ++ H) K) :
    Holds n ds w0 env G H (stepK P ops Q ⟨some d, .call { callee := .builtin .append, args := #[s, x], argTypes := #[t, t] }, ty, pos, aft, g⟩ K) :=
  s_eff hg rfl hd (e_appendF hs hx hsl hL hsv hm hz hsz hl h1 h63 hb hm0) (fun v' w' ⟨B', ho, hs⟩ => (hK v' B' ho).atw hs)
/-- Nothing is appended: the slice itself. -/
theorem v_append0 {s x : Operand} {t : TypeId} {ad adx : Option Addr} {k c cx : Nat} (hs : ev env s = some (.slice ad k c)) (hx : ev env x = some (.slice adx 0 cx)) (hu : (elB P t).isSome = true) (hk : k ≤ c) (hk2 : c ≤ maxLen) :
    Val P env G H ⟨dst, .call { callee := .builtin .append, args := #[s, x], argTypes := #[t, t] }, ty, pos, aft, g⟩ (.slice ad k c) := fun a n ds w0 w ht hsat => by
  obtain ⟨sz, hu⟩ := Option.isSome_iff_exists.1 hu
  obtain ⟨e, hu, hz⟩ := elB_spec hu
  have hfc : (Builtin.firstCells sz 0 (.slice adx 0 cx)).run P w = .ok #[] w := by cases adx <;> simp [Builtin.firstCells, loadCells, loadCellsFrom]
  unfold maxLen at hk2
  cases ad <;> simp [execOp, resolve, invoke, builtin, ht.eval hs, ht.eval hx, Builtin.append_, run_underlying hu, run_sizeOf' hz, Builtin.lenOf, hfc, hk, storeCells]

theorem Cel.all {b : Nat} {L : List Value} {t : TypeId} {j : Nat} {u : Value} (hj : L[j]? = some u) : Cel G ((b, Cs L t) :: H) b (0 + j) u := by rw [Nat.zero_add]; exact Cel.head hj
theorem run_loadAgg {ty : TypeId} {b o sz : Nat} {vs : List Value} (ha : aggB P ty = some true) (hz : szB P ty = some sz) (hl : vs.length = sz) (hc : ∀ (j : Nat) u, vs[j]? = some u → Cel G H b (o + j) u) (hs : Sat w0 w G H) :
    (loadVar ty ⟨b, o, none⟩).run P w = .ok (.agg vs.toArray) w := by
  have hcs : (loadCells ⟨b, o, none⟩ vs.length).run P w = .ok vs.toArray w := run_loadCells_list (P := P) w ⟨b, o, none⟩ vs (fun j v hj => by
    rw [addr_add]; exact (hc j v hj).cell hs)
  simp [loadVar, run_isAgg' ha, run_sizeOf' hz, ← hl, hcs]
/-- Results that lie in cells: a struct, and what else there is. -/
theorem f_retA {fn : Func} {R : Ending → World → Prop} {t : Tmp} {ty : TypeId} {b sz : Nat} {vs : List Value} (hr : fn.results = #[.cell t ty]) (hp : env.lookup t = some (Pt b 0)) (ha : aggB P ty = some true) (hz : szB P ty = some sz) (hl : vs.length = sz)
    (hc : ∀ (j : Nat) u, vs[j]? = some u → Cel G H b (0 + j) u) (hR : ∀ w, Sat w0 w G H → R (.returned (.agg vs.toArray)) w) : Holds n [] w0 env G H (bodyPost P fn R .ret) := fun a w ht hs => by
  have hg := ht.get t _ hp
  exact ⟨ht.defers, .agg vs.toArray, by simp [results, hr, hg, asAddr, run_loadAgg ha hz hl hc hs], hR w hs⟩
theorem f_retA1 {fn : Func} {R : Ending → World → Prop} {t t2 : Tmp} {ty : TypeId} {b sz : Nat} {vs : List Value} {v2 : Value} (hr : fn.results = #[.cell t ty, .tmp t2]) (hp : env.lookup t = some (Pt b 0)) (h2 : env.lookup t2 = some v2) (ha : aggB P ty = some true) (hz : szB P ty = some sz) (hl : vs.length = sz)
    (hc : ∀ (j : Nat) u, vs[j]? = some u → Cel G H b (0 + j) u) (hR : ∀ w, Sat w0 w G H → R (.returned (.tuple #[.agg vs.toArray, v2])) w) : Holds n [] w0 env G H (bodyPost P fn R .ret) := fun a w ht hs => by
  have hg := ht.get t _ hp
  have hg2 := ht.get t2 _ h2
  exact ⟨ht.defers, .tuple #[.agg vs.toArray, v2], by simp [results, hr, hg, hg2, asAddr, run_loadAgg ha hz hl hc hs], hR w hs⟩

/-! ### Structs in memory -/
theorem s_boxA (vs : List Value) {t : TypeId} {x : Operand} (hg : gOn ops env ⟨some d, .box t x, ty, pos, aft, g⟩ = some true) (hd : Nat.blt d n = true) (hx : ev env x = some (.agg vs.toArray))
    (k : ∀ b, Holds n ds w0 ((d, Pt b 0) :: env) G ((b, Cs vs t) :: H) K) :
    Holds n ds w0 env G H (stepK P ops Q ⟨some d, .box t x, ty, pos, aft, g⟩ K) := s_box hg hd hx k
theorem s_allocA (vs : List Value) {t : TypeId} (hz : zeroB P t = some (.agg vs.toArray)) (hg : gOn ops env ⟨some d, .alloc t, ty, pos, aft, g⟩ = some true) (hd : Nat.blt d n = true)
    (k : ∀ b, Holds n ds w0 ((d, Pt b 0) :: env) G ((b, Cs vs t) :: H) K) :
    Holds n ds w0 env G H (stepK P ops Q ⟨some d, .alloc t, ty, pos, aft, g⟩ K) := s_alloc _ hz hg hd k
theorem s_storeA {t t' : TypeId} {x y : Operand} {b : Nat} {vs L : List Value} {H1 : Hp} (hg : gOn ops env ⟨none, .store t x y, ty, pos, aft, g⟩ = some true)
    (hx : ev env x = some (Pt b 0)) (hy : ev env y = some (.agg vs.toArray)) (hp : Pick b (Cs L t') H H1) (hz : szB P t = some vs.length) (h1 : ∀ u ∈ vs, u.oneCell' = true) (hl : vs.length = L.length)
    (k : Holds n ds w0 env G ((b, Cs vs t') :: H1) K) :
    Holds n ds w0 env G H (stepK P ops Q ⟨none, .store t x y, ty, pos, aft, g⟩ K) := by
  refine s_store hg hx hy hp (by simpa [Value.cells] using hz) (by simpa [Value.cells] using h1) (by simp [Value.cells]; omega) ?_
  have : L.take 0 ++ (Value.agg vs.toArray).cells.toList ++ L.drop (0 + (Value.agg vs.toArray).cells.size) = vs := by simp [Value.cells, hl]
  rw [this]; exact k
end
end

section
open Go
set_option linter.unusedVariables false
set_option linter.unusedSimpArgs false

/-- An array: how many elements, and how many cells each has. -/
def arB (P : Program) (t : TypeId) : Option (Nat × Nat) := match P.underlying t with
  | some (.array k e) => match szB P e with
    | some s => some (k, s)
    | none => none
  | _ => none
theorem arB_spec {P : Program} {t : TypeId} {k s : Nat} (h : arB P t = some (k, s)) : ∃ e, P.underlying t = some (.array k e) ∧ szB P e = some s := by
  unfold arB at h
  split at h
  · rename_i k' e hu
    split at h
    · rename_i s' h2; cases h; exact ⟨e, hu, h2⟩
    · cases h
  · cases h
/-- A struct of three int: its fields. -/
def st3B (P : Program) (t : TypeId) : Bool := match P.underlying t with
  | some (.struct fs) => match fs.toList with
    | [f, g, h] => i64B P f.type && i64B P g.type && i64B P h.type && f.offset == 0 && g.offset == 1 && h.offset == 2 && f.name != "_" && g.name != "_" && h.name != "_" && !P.stoodInHeld t && !P.eqGuardType P.depth t
    | _ => false
  | _ => false
section
variable {w0 w : World} {G G' : Im} {H H1 : Hp} {n : Nat} {ds : List Deferred} {env : Env} {P : Program} {R : Act → World → Prop} {ops : Array Oper} {Q : Exit → Act → World → Prop} {K : Act → World → Prop}
variable {dst : Option Tmp} {d : Nat} {ty : TypeId} {pos : String} {aft : Array Edge} {g : Option (Nat × Bool)}

theorem agg_i64 {t : TypeId} (h : i64B P t = true) : aggB P t = some false := by
  have := i64B_spec h
  unfold aggB; rw [this]; rfl
theorem run_part_i64 {t : TypeId} {xs : Array Value} {off : Nat} {v : Value} (h : i64B P t = true) (hx : xs[off]? = some v) : (part t xs off).run P w = .ok v w := by
  simp [part, run_isAgg' (agg_i64 h), hx]
theorem run_eq3 {t : TypeId} {a b c a' b' c' : Int} (h : st3B P t = true) (dp : Nat) :
    (Op.equalIn (dp + 2) t (.agg #[I64 a, I64 b, I64 c]) (.agg #[I64 a', I64 b', I64 c'])).run P w = .ok (decide (a = a') && decide (b = b') && decide (c = c')) w ∧ P.eqGuardType P.depth t = false := by
  unfold st3B at h
  split at h
  · rename_i fs hu
    split at h
    · rename_i f1 f2 f3 hfs
      simp only [Bool.and_eq_true, beq_iff_eq, bne_iff_ne, Bool.not_eq_true'] at h
      obtain ⟨⟨⟨⟨⟨⟨⟨⟨⟨⟨h1, h2⟩, h3⟩, o1⟩, o2⟩, o3⟩, n1⟩, n2⟩, n3⟩, hst⟩, heg⟩ := h
      refine ⟨?_, heg⟩
      have hf : P.fieldsOf t = fs := by unfold Program.fieldsOf; rw [hu]
      have hu' : P.underlying t = some (.struct (P.fieldsOf t)) := by rw [hf]; exact hu
      rw [run_equalIn_struct w (dp + 1) t _ _ hu' hst, hf, hfs]
      have p1 : ∀ (x y z : Value), (part f1.type #[x, y, z] f1.offset).run P w = .ok x w := fun x y z => run_part_i64 h1 (by rw [o1]; rfl)
      have p2 : ∀ (x y z : Value), (part f2.type #[x, y, z] f2.offset).run P w = .ok y w := fun x y z => run_part_i64 h2 (by rw [o2]; rfl)
      have p3 : ∀ (x y z : Value), (part f3.type #[x, y, z] f3.offset).run P w = .ok z w := fun x y z => run_part_i64 h3 (by rw [o3]; rfl)
      have e1 := fun p q => run_equalIn_int (P := P) w dp f1.type .i64 .i64 p q (i64B_spec h1)
      have e2 := fun p q => run_equalIn_int (P := P) w dp f2.type .i64 .i64 p q (i64B_spec h2)
      have e3 := fun p q => run_equalIn_int (P := P) w dp f3.type .i64 .i64 p q (i64B_spec h3)
      by_cases ha : a = a' <;> by_cases hb : b = b' <;> by_cases hc : c = c' <;> simp [Op.eqFields, n1, n2, n3, p1, p2, p3, e1, e2, e3, ha, hb, hc]
    · cases h
  · cases h
theorem v_eq3 {x y : Operand} {t t' : TypeId} {a b c a' b' c' : Int} (hx : ev env x = some (.agg #[I64 a, I64 b, I64 c])) (hy : ev env y = some (.agg #[I64 a', I64 b', I64 c'])) (h : st3B P t = true) :
    Val P env G H ⟨dst, .binOp .eql t x y t', ty, pos, aft, g⟩ (.bool (decide (a = a') && decide (b = b') && decide (c = c'))) := fun ac n ds w0 w ht hs => by
  obtain ⟨h1, h2⟩ := run_eq3 (w := w) (a := a) (b := b) (c := c) (a' := a') (b' := b') (c' := c') h 9998
  have h3 := run_eqGuard_agg (P := P) w .eql t x y #[I64 a, I64 b, I64 c] #[I64 a', I64 b', I64 c'] h2
  simp only [execOp, ht.eval hx, ht.eval hy, Sem.run_bind, h3, Result.andThen_ok, run_eql_struct, h1, Sem.run_pure]
theorem v_ne3 {x y : Operand} {t t' : TypeId} {a b c a' b' c' : Int} (hx : ev env x = some (.agg #[I64 a, I64 b, I64 c])) (hy : ev env y = some (.agg #[I64 a', I64 b', I64 c'])) (h : st3B P t = true) :
    Val P env G H ⟨dst, .binOp .neq t x y t', ty, pos, aft, g⟩ (.bool (!(decide (a = a') && decide (b = b') && decide (c = c')))) := fun ac n ds w0 w ht hs => by
  obtain ⟨h1, h2⟩ := run_eq3 (w := w) (a := a) (b := b) (c := c) (a' := a') (b' := b') (c' := c') h 9998
  have h3 := run_eqGuard_agg (P := P) w .neq t x y #[I64 a, I64 b, I64 c] #[I64 a', I64 b', I64 c'] h2
  simp only [execOp, ht.eval hx, ht.eval hy, Sem.run_bind, h3, Result.andThen_ok, run_neq_struct, h1, Sem.run_pure]

/-- A comparison whose answer is known. -/
theorem v_t {o : Oper} {p : Prop} {hd : Decidable p} (hv : Val P env G H o (.bool (@decide p hd))) (h : p) : Val P env G H o (.bool true) := by rwa [decide_eq_true h] at hv
theorem v_f {o : Oper} {p : Prop} {hd : Decidable p} (hv : Val P env G H o (.bool (@decide p hd))) (h : ¬ p) : Val P env G H o (.bool false) := by rwa [decide_eq_false h] at hv
theorem v_is {o : Oper} {v u : Value} (hv : Val P env G H o v) (h : v = u) : Val P env G H o u := h ▸ hv

theorem v_indexA (k sz : Nat) {x i : Operand} {t : TypeId} {b o : Nat} {p : Int} (hx : ev env x = some (Pt b o)) (hi : ev env i = some (I64 p)) (hu : arB P t = some (k, sz))
    (hp : 0 ≤ p ∧ p < k) : Val P env G H ⟨dst, .indexAddr t x i, ty, pos, aft, g⟩ (Pt b (o + p.toNat * sz)) := fun a n ds w0 w ht hs => by
  obtain ⟨e, hu1, hz⟩ := arB_spec hu
  simp [execOp, Instr.indexAt, Instr.sureAddr, asIntOf, ht.eval hx, ht.eval hi, run_underlying hu1, hp.1, hp.2, run_sizeOf' hz, addr_add]
end
end

section
variable {α V : Type}

/-- L is the records xs, each of s cells. -/
def Recs (s : Nat) (R : List V → α → Prop) (L : List V) (xs : List α) : Prop := L.length = xs.length * s ∧ ∀ (j : Nat) x, xs[j]? = some x → R ((L.drop (j * s)).take s) x
variable {s : Nat} {R R' : List V → α → Prop} {L M : List V} {xs ys : List α}
theorem Recs.mono (h : Recs s R L xs) (hR : ∀ c x, R c x → R' c x) : Recs s R' L xs := ⟨h.1, fun j x hx => hR _ _ (h.2 j x hx)⟩
theorem Recs.nil : Recs s R [] [] := ⟨by simp, fun j x hx => by simp at hx⟩
theorem Recs.one {c : List V} {x : α} (hl : c.length = s) (h : R c x) : Recs s R c [x] := ⟨by simp [hl], fun j y hy => by
  cases j with
  | zero => simp at hy; subst hy; rw [Nat.zero_mul, List.drop_zero, ← hl, List.take_length]; exact h
  | succ j => simp at hy⟩
theorem Recs.append (h : Recs s R L xs) (k : Recs s R M ys) : Recs s R (L ++ M) (xs ++ ys) := by
  refine ⟨by rw [List.length_append, List.length_append, h.1, k.1, Nat.add_mul], fun j x hx => ?_⟩
  by_cases hj : j < xs.length
  · rw [List.getElem?_append_left hj] at hx
    have h1 : (j + 1) * s ≤ xs.length * s := Nat.mul_le_mul_right _ hj
    rw [Nat.add_mul, Nat.one_mul] at h1
    have := h.2 j x hx
    rw [List.drop_append, List.take_append_of_le_length (by rw [List.length_drop, h.1]; omega)]
    exact this
  · rw [List.getElem?_append_right (Nat.le_of_not_lt hj)] at hx
    have h1 : xs.length * s ≤ j * s := Nat.mul_le_mul_right _ (Nat.le_of_not_lt hj)
    have := k.2 _ x hx
    rw [Nat.sub_mul] at this
    rw [List.drop_append, List.drop_eq_nil_of_le (by rw [h.1]; exact h1), List.nil_append, h.1]
    exact this
theorem Recs.take (h : Recs s R L xs) (k : Nat) : Recs s R (L.take (k * s)) (xs.take k) := by
  refine ⟨?_, fun j x hx => ?_⟩
  · rw [List.length_take, List.length_take, h.1]
    by_cases hk : k ≤ xs.length
    · rw [Nat.min_eq_left hk, Nat.min_eq_left (Nat.mul_le_mul_right _ hk)]
    · have hk' : xs.length ≤ k := by omega
      rw [Nat.min_eq_right hk', Nat.min_eq_right (Nat.mul_le_mul_right _ hk')]
  · rw [List.getElem?_take] at hx
    split at hx
    · rename_i hj
      have := h.2 j x hx
      have h1 : (j + 1) * s ≤ k * s := Nat.mul_le_mul_right _ hj
      rw [Nat.add_mul, Nat.one_mul] at h1
      rw [List.drop_take, List.take_take, Nat.min_eq_left (by omega)]
      exact this
    · cases hx
theorem Recs.drop (h : Recs s R L xs) (k : Nat) : Recs s R (L.drop (k * s)) (xs.drop k) := by
  refine ⟨by rw [List.length_drop, List.length_drop, h.1, Nat.sub_mul], fun j x hx => ?_⟩
  rw [List.getElem?_drop] at hx
  have := h.2 _ x hx
  rw [List.drop_drop, ← Nat.add_mul]; exact this
theorem Recs.at (h : Recs s R L xs) (j : Nat) (hj : j < xs.length) : ∃ c : List V, R c xs[j] ∧ c.length = s ∧ ∀ f, f < s → L[j * s + f]? = c[f]? := by
  refine ⟨_, h.2 j xs[j] (by simp [hj]), ?_, fun f hf => ?_⟩
  · have h1 : (j + 1) * s ≤ xs.length * s := Nat.mul_le_mul_right _ hj
    rw [Nat.add_mul, Nat.one_mul] at h1
    rw [List.length_take, List.length_drop, h.1]; omega
  · rw [List.getElem?_take, if_pos hf, List.getElem?_drop]
theorem Recs.all {p : V → Prop} (h : Recs s R L xs) (hs : 0 < s) (hp : ∀ c x, R c x → ∀ v ∈ c, p v) : ∀ v ∈ L, p v := by
  intro v hv
  obtain ⟨i, hi, rfl⟩ := List.getElem_of_mem hv
  have h1 : i / s < xs.length := by rw [h.1] at hi; exact Nat.div_lt_of_lt_mul (by rw [Nat.mul_comm]; exact hi)
  obtain ⟨c, hc, hl, hf⟩ := h.at (i / s) h1
  have h2 := hf (i % s) (Nat.mod_lt _ hs)
  have h3 : i / s * s + i % s = i := by rw [Nat.mul_comm]; exact Nat.div_add_mod i s
  rw [h3, List.getElem?_eq_getElem hi] at h2
  exact hp c _ hc _ (List.mem_of_getElem? h2.symm)
end

section
open Go
set_option linter.unusedVariables false

/-- v is a slice of the records xs, which nobody writes. -/
def RecV {α : Type} (s : Nat) (R : Im → List Value → α → Prop) (G : Im) (v : Value) (xs : List α) : Prop := ∃ L, SV G [] v xs.length L ∧ Recs s (R G) L xs
/-- What a record says does not go when more is known. -/
def Up {α : Type} (R : Im → List Value → α → Prop) : Prop := ∀ (G G' : Im) c x, Im.le G G' → R G c x → R G' c x
theorem SV.up {G G' : Im} {H : Hp} {v : Value} {k : Nat} {L : List Value} (h : SV G [] v k L) (hG : Im.le G G') : SV G' H v k L := h.mono hG (by simp)
theorem Sat.dropL {w0 w : World} {G : Im} {B F : Hp} (h : Sat w0 w G (B ++ F)) : Sat w0 w G F := (h.perm List.perm_append_comm).drop
theorem Sat.swap {w0 w : World} {G : Im} {x y : Nat × Obj} {F : Hp} (h : Sat w0 w G (x :: y :: F)) : Sat w0 w G (y :: x :: F) := h.perm (List.Perm.swap _ _ _)
theorem SV.full {G : Im} {H : Hp} {ad : Option Addr} {k c : Nat} {L : List Value} (h : SV G H (.slice ad k c) k L) (hL : k = 0 → L = []) : SV G H (.slice ad k k) k L := by
  obtain ⟨_, _, e, h1, h2, h3⟩ := h
  cases e
  refine ⟨ad, k, rfl, Nat.le_refl _, by omega, h3.imp (fun h => ⟨h.1, fun hn => ?_⟩) id⟩
  have := h.2 hn; omega
variable {α : Type} {s : Nat} {R : Im → List Value → α → Prop} {G G' : Im} {v : Value} {xs : List α}
theorem RecV.up (hU : Up R) (h : RecV s R G v xs) (hG : Im.le G G') : RecV s R G' v xs := let ⟨L, h1, h2⟩ := h; ⟨L, h1.up hG, h2.mono fun c x => hU _ _ c x hG⟩
theorem RecV.nil : RecV s R G (.slice none 0 0) [] := ⟨[], SV.nil _ _, Recs.nil⟩
theorem RecV.form (h : RecV s R G v xs) : ∃ ad c, v = .slice ad xs.length c ∧ xs.length ≤ c ∧ c ≤ maxLen := let ⟨L, ⟨ad, c, e, h1, h2, _⟩, _⟩ := h; ⟨ad, c, e, h1, h2⟩
/-- Element j: its cells, where they lie. -/
theorem RecV.at (h : RecV s R G v xs) (hs : 0 < s) (j : Nat) (hj : j < xs.length) : ∃ b o c cells, v = Sl b o xs.length c ∧ R G cells xs[j] ∧ cells.length = s ∧ ∀ (H : Hp) (f : Nat) u, cells[f]? = some u → Cel G H b (o + j * s + f) u := by
  obtain ⟨L, hsv, hr⟩ := h
  obtain ⟨cells, hc, hl, hf⟩ := hr.at j hj
  obtain ⟨ad, c, e, h1, h2, h3⟩ := hsv
  rcases h3 with ⟨h0, _⟩ | ⟨b, o, rfl, hcel⟩
  · have h4 := hr.1
    rw [h0] at h4
    have : 0 < xs.length * s := Nat.mul_pos (by omega) hs
    exact absurd h4.symm (Nat.ne_of_gt this)
  · refine ⟨b, o, c, cells, e, hc, hl, fun H f u hu => ?_⟩
    have hfs : f < s := by rw [← hl]; exact (List.getElem?_eq_some_iff.1 hu).1
    have := hcel (j * s + f) u (by rw [hf f hfs]; exact hu)
    rw [← Nat.add_assoc] at this
    exact this.mono (Im.le_refl G) (by simp)
theorem Split.dropN : ∀ (D F : Hp), ∃ R, Split (D ++ F) F R
  | D, [] => ⟨_, .nil⟩
  | D, (b, o) :: F => by
    obtain ⟨R, h⟩ := Split.dropN D F
    exact ⟨R, .cons (Pick.app .head) rfl h⟩
/-- Blocks in between are let go. -/
theorem Split.mid (B D F : Hp) : ∃ R, Split (B ++ (D ++ F)) (B ++ F) R := let ⟨R, h⟩ := Split.dropN D F; ⟨R, h.appL B⟩
/-- An own slice of records. -/
def ROwn {α : Type} (s : Nat) (R : Im → List Value → α → Prop) (e : TypeId) (G : Im) (v : Value) (xs : List α) (B : Hp) : Prop := ∃ L, Own v xs.length L e s B ∧ Recs s (R G) L xs
theorem ROwn.up {e : TypeId} {B : Hp} (hU : Up R) (h : ROwn s R e G v xs B) (hG : Im.le G G') : ROwn s R e G' v xs B := let ⟨L, h1, h2⟩ := h; ⟨L, h1, h2.mono fun c x => hU _ _ c x hG⟩
theorem ROwn.zero (ad : Option Addr) (e : TypeId) : ROwn s R e G (.slice ad 0 0) [] [] := ⟨[], Own.zero ad e s, Recs.nil⟩
theorem ROwn.form {e : TypeId} {B : Hp} (h : ROwn s R e G v xs B) : ∃ ad c, v = .slice ad xs.length c := let ⟨L, h1, _⟩ := h; h1.form
/-- It can be looked at. -/
def RecH {α : Type} (s : Nat) (R : Im → List Value → α → Prop) (G : Im) (H : Hp) (v : Value) (xs : List α) : Prop := ∃ L, SV G H v xs.length L ∧ Recs s (R G) L xs
theorem RecV.here {H : Hp} (h : RecV s R G v xs) : RecH s R G H v xs := let ⟨L, h1, h2⟩ := h; ⟨L, h1.up (Im.le_refl G), h2⟩
theorem ROwn.here {e : TypeId} {B H : Hp} (h : ROwn s R e G v xs B) (hB : ∀ p, p ∈ B → p ∈ H) : RecH s R G H v xs := let ⟨L, h1, h2⟩ := h; ⟨L, h1.sv hB, h2⟩
theorem RecH.form {H : Hp} (h : RecH s R G H v xs) : ∃ ad c, v = .slice ad xs.length c ∧ xs.length ≤ c ∧ c ≤ maxLen := let ⟨L, ⟨ad, c, e, h1, h2, _⟩, _⟩ := h; ⟨ad, c, e, h1, h2⟩
theorem RecH.at {H : Hp} (h : RecH s R G H v xs) (hs : 0 < s) (j : Nat) (hj : j < xs.length) : ∃ b o c cells, v = Sl b o xs.length c ∧ R G cells xs[j] ∧ cells.length = s ∧ ∀ (f : Nat) u, cells[f]? = some u → Cel G H b (o + j * s + f) u := by
  obtain ⟨L, hsv, hr⟩ := h
  obtain ⟨cells, hc, hl, hf⟩ := hr.at j hj
  obtain ⟨ad, c, e, h1, h2, h3⟩ := hsv
  rcases h3 with ⟨h0, _⟩ | ⟨b, o, rfl, hcel⟩
  · have h4 := hr.1
    rw [h0] at h4
    have : 0 < xs.length * s := Nat.mul_pos (by omega) hs
    exact absurd h4.symm (Nat.ne_of_gt this)
  · refine ⟨b, o, c, cells, e, hc, hl, fun f u hu => ?_⟩
    have hfs : f < s := by rw [← hl]; exact (List.getElem?_eq_some_iff.1 hu).1
    have := hcel (j * s + f) u (by rw [hf f hfs]; exact hu)
    rw [← Nat.add_assoc] at this
    exact this
/-- A drawn region whose quiet operations look at a part of the memory alone. -/
theorem r_startS {w0 : World} {G : Im} {H : Hp} {n : Nat} {ds : List Deferred} {env : Env} {P : Program} {Q : Exit → Act → World → Prop} {id : Nat} {l : List Oper} (H' : Hp) (late : List Nat) (hm : P.follows .mixedOrders = true) (hS : ∀ w, Sat w0 w G H → Sat w0 w G H') (h : Holds n ds w0 env G H (wpR P l.toArray late Q (fun w => Sat w0 w G H') l.length (Array.replicate l.length false))) :
    Holds n ds w0 env G H ((Code.region id l.toArray true).wp P Q) := fun a w ht hs => by
  refine wp_region_any hm ?_
  have := wpAny_of_wpR _ _ _ _ (h a w.drew ht hs.drew)
  simpa using this
/-- []T{} -/
theorem s_lit0 {w0 : World} {G : Im} {H : Hp} {n d : Nat} {ds : List Deferred} {env : Env} {P : Program} {Q : Exit → Act → World → Prop} {K : Act → World → Prop} {ops : Array Oper} {ty : TypeId} {pos : String} {aft : Array Edge} {g : Option (Nat × Bool)}
    {t e : TypeId} {z : Value} {sz bs : Nat} (hm : mkB P t = some (e, z, sz, bs)) (hg : gOn ops env ⟨some d, .buildSlice t 0 #[], ty, pos, aft, g⟩ = some true) (hd : Nat.blt d n = true)
    (hK : ∀ b, Holds n ds w0 ((d, Sl b 0 0 0) :: env) G ((b, Cs [] e) :: H) K) :
    Holds n ds w0 env G H (stepK P ops Q ⟨some d, .buildSlice t 0 #[], ty, pos, aft, g⟩ K) :=
  s_eff (Φ := fun u w' => ∃ b, u = Sl b 0 0 0 ∧ Sat w0 w' G ((b, Cs [] e) :: H)) hg rfl hd (fun a n ds w ht hs => by
    obtain ⟨i, hu, hi, hzero, hsz, _⟩ := mkB_spec hm
    refine ⟨Sl w.heap.size 0 0 0, w.alloc (Cs [] e), ?_, w.heap.size, rfl, hs.alloc _⟩
    have h5 : ∀ f : Nat → Value, (Array.range 0).map f = #[] := fun f => by apply Array.ext'; simp
    simp [execOp, Instr.buildSlice, run_underlying hu, sizeOf, typeInfo, hi, Instr.fill, newRow, h5]) (fun u w' ⟨b, hu, hs⟩ => by subst hu; exact (hK b).atw hs)
end

section
open Go
set_option linter.unusedVariables false

section
open Classical
theorem ex_sub {α : Type} : ∀ (K H : List α), (∀ a, K.count a ≤ H.count a) → ∃ R, H.Perm (K ++ R)
  | [], H, _ => ⟨H, .refl _⟩
  | x :: K, H, h => by
    have hx : x ∈ H := by
      have := h x
      rw [List.count_cons_self] at this
      exact List.count_pos_iff.1 (by omega)
    have hp := List.perm_cons_erase hx
    obtain ⟨R, hR⟩ := ex_sub K (H.erase x) (fun a => by
      have h1 := h a
      have h2 := hp.count_eq a
      rw [List.count_cons] at h1 h2
      omega)
    exact ⟨R, hp.trans (hR.cons x)⟩
theorem sum_ind {α : Type} (a : α) : ∀ (l : List α), (l.map fun x => if x = a then 1 else 0).sum = l.count a
  | [] => rfl
  | x :: l => by
    rw [List.map_cons, List.sum_cons, sum_ind a l, List.count_cons]
    by_cases h : x = a <;> simp [h]; omega
theorem sub_of {α : Type} {K H : List α} (h : ∀ f : α → Nat, (K.map f).sum ≤ (H.map f).sum) : ∃ R, H.Perm (K ++ R) := ex_sub K H fun a => by
  have := h (fun x => if x = a then 1 else 0)
  rwa [sum_ind, sum_ind] at this
end
section
variable {w0 w : World} {G : Im} {H K R' : Hp} {n : Nat} {ds : List Deferred} {env : Env} {P : Program} {Q : Exit → Act → World → Prop} {x y : Code} {R : Act → World → Prop}
abbrev SubH (K H : Hp) : Prop := ∀ f : Nat × Obj → Nat, (K.map f).sum ≤ (H.map f).sum
theorem Cel.allI {b : Nat} {L : List Value} {t : TypeId} {j : Nat} {u : Value} (hb : G b = some (Cs L t)) (hj : L[j]? = some u) : Cel G H b (0 + j) u := by rw [Nat.zero_add]; exact Cel.imm hb hj
theorem Sat.none (h : Sat w0 w G H) : Sat w0 w G [] := Sat.drop (K := []) h
theorem a_ret0 {nx : Act → World → Prop} {v : Value} (h : Holds n ds w0 env G H nx) (hs : Sat w0 w G H) : After n ds env none Q nx (.returned v) w := h.atw hs
theorem Sat.sub (h : Sat w0 w G H) (hs : SubH K H) : Sat w0 w G K := by
  obtain ⟨R, hR⟩ := sub_of hs
  exact (h.perm hR).drop
theorem Sat.sb (h : Sat w0 w G H) (hs : SubH K H := by intro f; first | omega | (simp only [List.map_append, List.map_cons, List.map_nil, List.sum_append, List.sum_cons, List.sum_nil, List.append_nil, List.nil_append]; omega)) : Sat w0 w G K := h.sub hs
theorem c_sub (K : Hp) (hs : SubH K H) (h : Holds n ds w0 env G K R) : Holds n ds w0 env G H R := fun a w ht hw => h a w ht (hw.sub hs)
theorem c_kt (d : Nat) {p : Prop} [Decidable p] (hd : env.lookup d = some (.bool (decide p))) (h : p) (k : Holds n ds w0 ((d, .bool true) :: env) G H R) : Holds n ds w0 env G H R := c_part_d d p hd (fun _ => k) (fun e => absurd h e)
theorem c_kf (d : Nat) {p : Prop} [Decidable p] (hd : env.lookup d = some (.bool (decide p))) (h : ¬ p) (k : Holds n ds w0 ((d, .bool false) :: env) G H R) : Holds n ds w0 env G H R := c_part_d d p hd (fun e => absurd e h) (fun _ => k)
theorem c_knt (d : Nat) {p : Prop} [Decidable p] (hd : env.lookup d = some (.bool (!decide p))) (h : ¬ p) (k : Holds n ds w0 ((d, .bool true) :: env) G H R) : Holds n ds w0 env G H R := c_part_nd d p hd (fun _ => k) (fun e => absurd e h)
theorem c_knf (d : Nat) {p : Prop} [Decidable p] (hd : env.lookup d = some (.bool (!decide p))) (h : p) (k : Holds n ds w0 ((d, .bool false) :: env) G H R) : Holds n ds w0 env G H R := c_part_nd d p hd (fun e => absurd h e) (fun _ => k)
theorem n_at {env' : Env} (he : Env.sub env env') (hsp : SubH K H) : Holds n ds w0 env G H (fun a w => TT a n ds env' ∧ Sat w0 w G K) := fun a w ht hs => ⟨ht.mono (Env.sub_spec he), hs.sub hsp⟩
theorem n_next {α : Type} {env' : α → Env} {G' : α → Im} {H' : α → Hp} {inv : α → Prop} {mu : α → Nat} {x : α} (y : α) (hy : inv y) (hm : mu y < mu x) (he : Env.sub env (env' y)) (hG : G' y = G) (hsp : SubH (H' y) H) :
    Holds n ds w0 env G H (fun a w => ∃ y, inv y ∧ mu y < mu x ∧ TT a n ds (env' y) ∧ Sat w0 w (G' y) (H' y)) := fun a w ht hs =>
  ⟨y, hy, hm, ht.mono (Env.sub_spec he), by rw [hG]; exact hs.sub hsp⟩
theorem n_mid {α : Type} {env' : α → Env} {G' : α → Im} {H' : α → Hp} {inv : α → Prop} (z : α) (hz : inv z) (he : Env.sub env (env' z)) (hG : G' z = G) (hsp : SubH (H' z) H) :
    Holds n ds w0 env G H (fun a w => ∃ z, inv z ∧ TT a n ds (env' z) ∧ Sat w0 w (G' z) (H' z)) := fun a w ht hs => ⟨z, hz, ht.mono (Env.sub_spec he), by rw [hG]; exact hs.sub hsp⟩
end
theorem sbx {A B : Hp} (h : SubH A B := by exact (fun f => by first | omega | (simp only [List.map_append, List.map_cons, List.map_nil, List.sum_append, List.sum_cons, List.sum_nil, List.append_nil, List.nil_append]; omega))) : SubH A B := h
end

section
open Go
set_option linter.unusedVariables false
set_option linter.unusedSimpArgs false

section
variable {P : Program} {ops : Array Oper} {Q : Exit → Act → World → Prop} {S : World → Prop} {late blk : List Nat}

/-- The operations 'blk' wait for number i, directly or through one another, and so does each late one that has not come up. -/
structure Bk (ops : Array Oper) (late blk : List Nat) (L : Array Bool) (i : Nat) : Prop where
  und : ∀ b ∈ blk, L.getD b true = false
  wait : ∀ b ∈ blk, ∀ o, ops[b]? = some o → ∃ e ∈ o.after, Region.binds .any e = true ∧ (e.on = i ∨ e.on ∈ blk)
  cov : ∀ j ∈ late, L.getD j true = true ∨ j ∈ blk
def bkB (ops : Array Oper) (late blk : List Nat) (L : Array Bool) (i : Nat) : Bool :=
  blk.all (fun b => !(L.getD b true) && (match ops[b]? with | none => true | some o => o.after.any fun e => Region.binds .any e && (e.on == i || blk.contains e.on))) && late.all (fun j => L.getD j true || blk.contains j)
theorem bk_of {L : Array Bool} {i : Nat} (h : bkB ops late blk L i = true) : Bk ops late blk L i := by
  unfold bkB at h
  rw [Bool.and_eq_true] at h
  refine ⟨fun b hb => ?_, fun b hb o ho => ?_, fun j hj => ?_⟩
  · have := List.all_eq_true.1 h.1 b hb
    simp only [Bool.and_eq_true, Bool.not_eq_true'] at this
    exact this.1
  · have := List.all_eq_true.1 h.1 b hb
    rw [ho] at this
    simp only [Bool.and_eq_true] at this
    obtain ⟨e, he, hx⟩ := Array.any_eq_true'.1 this.2
    simp only [Bool.and_eq_true, Bool.or_eq_true, beq_iff_eq, List.contains_eq_mem, decide_eq_true_eq] at hx
    exact ⟨e, he, hx.1, hx.2⟩
  · have := List.all_eq_true.1 h.2 j hj
    simpa using this
theorem undone_not {L : Array Bool} {k : Nat} (h0 : L.getD k true = false) (h1 : L.getD k false = true) : False := by
  rcases Nat.lt_or_ge k L.size with h' | h'
  · simp [h'] at h0 h1; rw [h0] at h1; cases h1
  · simp [Array.getElem?_eq_none h'] at h1
theorem Bk.not_ready {L : Array Bool} {i j : Nat} (h : Bk ops late blk L i) (hi : i ∈ Region.ready .any ops L) (hj : j ∈ Region.ready .any ops L) : j ∉ blk := fun hm => by
  obtain ⟨hun, oj, hoj, hall⟩ := mem_ready.1 hj
  obtain ⟨e, he, hb, hon⟩ := h.wait j hm oj hoj
  have h2 := hall e he hb
  rcases hon with hon | hon
  · rw [hon] at h2
    have h0 := (mem_ready.1 hi).1
    rcases Nat.lt_or_ge i L.size with h' | h'
    · simp [h'] at h0 h2; rw [h0] at h2; cases h2
    · simp [Array.getElem?_eq_none h'] at h2
  · have h0 := h.und _ hon
    rcases Nat.lt_or_ge e.on L.size with h' | h'
    · simp [h'] at h0 h2; rw [h0] at h2; cases h2
    · simp [Array.getElem?_eq_none h'] at h2
theorem Bk.notlate {L : Array Bool} {i j : Nat} (h : Bk ops late blk L i) (hi : i ∈ Region.ready .any ops L) (hj : j ∈ Region.ready .any ops L) : late.contains j = false := by
  cases hc : late.contains j with
  | false => rfl
  | true =>
    have hm : j ∈ late := by simpa using hc
    rcases h.cov j hm with h1 | h1
    · have h0 := (mem_ready.1 hj).1
      rw [h1] at h0; cases h0
    · exact absurd h1 (h.not_ready hi hj)
theorem Bk.set {L : Array Bool} {i j : Nat} (h : Bk ops late blk L i) (hi : i ∈ Region.ready .any ops L) (hj : j ∈ Region.ready .any ops L) : Bk ops late blk (L.setIfInBounds j true) i := by
  refine ⟨fun b hb => ?_, h.wait, fun k hk => (h.cov k hk).imp (fun h1 => ?_) id⟩
  · rw [getD_set_ne true (fun e => h.not_ready hi hj (by rw [e]; exact hb))]; exact h.und b hb
  · by_cases hjk : j = k
    · subst hjk
      rcases Nat.lt_or_ge j L.size with h' | h'
      · simp [h']
      · simp [Array.getElem?_eq_none h', h']
    · rw [getD_set_ne true hjk]; exact h1

theorem wpR_firstB {i : Nat} {oi : Oper} {v : Value} (hi : ops[i]? = some oi) (hsel : ∀ (j : Nat) (o : Oper) cs b, ops[j]? = some o → o.op ≠ .select cs b)
    (hQ : ∀ c a w, Q (.panic c) (a.put oi.dst v) w → Q (.panic c) a w) :
    ∀ (fuel : Nat) (L : Array Bool) (a : Act) (w : World),
      (∀ j oj, ops[j]? = some oj → j ≠ i → L.getD j true = false → (∀ e ∈ oj.after, Region.binds .any e = true → e.on ≠ i) → oi.apart ops oj = true) →
      Bk ops late blk L i → i ∈ Region.ready .any ops L → YieldsIf P ops S oi v a → S w →
      wpR P ops late Q S fuel (L.setIfInBounds i true) (a.put oi.dst v) w → wpR P ops late Q S (fuel + 1) L a w := by
  intro fuel
  induction fuel with
  | zero =>
    intro L a w _ _ hr hy hS H
    refine ⟨fun h => (by rw [h] at hr; cases hr), fun j hj => ?_⟩
    by_cases hji : j = i
    · subst hji; exact hy.wpOp hi hS ⟨.inr hS, H⟩
    · have h1 := ready_mono hj hji
      rw [H.1] at h1
      cases h1
  | succ fuel ih =>
    intro L a w hfree hlate hr hy hS H
    refine ⟨fun h => (by rw [h] at hr; cases hr), fun j hj => ?_⟩
    by_cases hji : j = i
    · subst hji; exact hy.wpOp hi hS ⟨.inr hS, H⟩
    · have h1 := H.2 j (ready_mono hj hji)
      obtain ⟨hjun, oj, hoj, hall⟩ := mem_ready.1 hj
      have hnot : ∀ e ∈ oj.after, Region.binds .any e = true → e.on ≠ i := fun e he hb heq => by
        have h1 := hall e he hb
        have h0 := (mem_ready.1 hr).1
        rw [heq] at h1
        rcases Nat.lt_or_ge i L.size with h' | h'
        · simp [h'] at h0 h1; rw [h0] at h1; cases h1
        · simp [Array.getElem?_eq_none h'] at h1
      have h2 := wpOp_putIf hoj (hfree j oj hoj hji hjun hnot) (fun cs b => hsel i oi cs b hi) (fun cs b => hsel j oj cs b hoj) hQ hy h1
      have hfree' : ∀ k ok, ops[k]? = some ok → k ≠ i → (L.setIfInBounds j true).getD k true = false →
          (∀ e ∈ ok.after, Region.binds .any e = true → e.on ≠ i) → oi.apart ops ok = true := fun k ok hk hki hun hno => by
        refine hfree k ok hk hki ?_ hno
        by_cases hjk : j = k
        · subst hjk; exact hjun
        · rw [getD_set_ne true hjk] at hun; exact hun
      have hnl := hlate.notlate hr hj
      refine wpOp_mono (fun a' w' h3 => ?_) h2
      obtain ⟨hy', hs', hrest⟩ := h3
      have hS' : S w' := hs'.resolve_left (by rw [hnl]; simp)
      rw [Array.setIfInBounds_comm _ _ (Ne.symm hji)] at hrest
      exact ⟨.inr hS', ih (L.setIfInBounds j true) a' w' hfree' (hlate.set hr hj) (ready_mono hr (Ne.symm hji)) hy' hS' hrest⟩
end

variable {w0 w : World} {G G' : Im} {H H' R' : Hp}
variable {n : Nat} {ds : List Deferred} {env : Env} {P : Program} {Q : Exit → Act → World → Prop} {ops : Array Oper} {late : List Nat} {S : World → Prop} {fuel : Nat} {L : Array Bool}
theorem r_takeB (i : Nat) (blk : List Nat) {oi : Oper} {d : Nat} {v : Value} {G1 : Im} {H1 : Hp} (hi : ops[i]? = some oi) (hs : Region.noSelect ops = true) (hf : Region.free .any ops L i = true) (hr : (Region.ready .any ops L).contains i = true)
    (hl : bkB ops late blk L i = true) (hg : gOn ops env oi = some true) (hdst : oi.dst = some d) (hd : Nat.blt d n = true) (hv : Val P env G H oi v) (hS : ∀ w, Sat w0 w G1 H1 → Sat w0 w G H) (hQ : PanicOk Q)
    (k : Holds n ds w0 ((d, v) :: env) G1 H1 (wpR P ops late Q (fun w => Sat w0 w G H) fuel (L.setIfInBounds i true))) :
    Holds n ds w0 env G1 H1 (wpR P ops late Q (fun w => Sat w0 w G H) (fuel + 1) L) := fun a w ht hw => by
  refine wpR_firstB hi (Region.noSelect_spec hs) (fun c a w h => hQ c a _ _ w (by rw [hdst] at h; exact h)) fuel L a w (Region.free_spec hi hf) (bk_of hl) (by simpa using hr) (.inl ⟨gOn_spec ht hg, fun w' hw' => hv a n ds w0 w' ht hw'⟩) (hS w hw) ?_
  rw [hdst]
  exact k _ w (ht.put (of_blt hd) v) hw
theorem r_skipB (i : Nat) (blk : List Nat) {oi : Oper} {d : Nat} {G1 : Im} {H1 : Hp} (hi : ops[i]? = some oi) (hs : Region.noSelect ops = true) (hf : Region.free .any ops L i = true) (hr : (Region.ready .any ops L).contains i = true)
    (hl : bkB ops late blk L i = true) (hg : gOn ops env oi = some false) (hdst : oi.dst = some d) (hd : Nat.blt d n = true) (hS : ∀ w, Sat w0 w G1 H1 → Sat w0 w G H) (hQ : PanicOk Q)
    (k : Holds n ds w0 ((d, undef) :: env) G1 H1 (wpR P ops late Q (fun w => Sat w0 w G H) fuel (L.setIfInBounds i true))) :
    Holds n ds w0 env G1 H1 (wpR P ops late Q (fun w => Sat w0 w G H) (fuel + 1) L) := fun a w ht hw => by
  refine wpR_firstB hi (Region.noSelect_spec hs) (fun c a w h => hQ c a _ _ w (by rw [hdst] at h; exact h)) fuel L a w (Region.free_spec hi hf) (bk_of hl) (by simpa using hr) (.inr ⟨gOn_spec ht hg, rfl⟩) (hS w hw) ?_
  rw [hdst]
  exact k _ w (ht.put (of_blt hd) undef) hw
end

section
open Go
set_option linter.unusedVariables false
set_option linter.unusedSimpArgs false

/-- A pointer to bytes of a stripe: five numbers. -/
structure P5 where
  c : Int
  l : Int
  n : Int
  a : Int
  k : Int
  deriving DecidableEq
abbrev P5.cells (x : P5) : List Value := [I64 x.c, I64 x.l, I64 x.n, I64 x.a, I64 x.k]
abbrev P5.V (x : P5) : Value := .agg #[I64 x.c, I64 x.l, I64 x.n, I64 x.a, I64 x.k]
def p0 : P5 := ⟨0, 0, 0, 0, 0⟩
/-- A struct of a struct of three int, and two int. -/
def st5B (P : Program) (t : TypeId) : Bool := match P.underlying t with
  | some (.struct fs) => match fs.toList with
    | [f, g, h] => st3B P f.type && (szB P f.type == some 3) && (aggB P f.type == some true) && i64B P g.type && i64B P h.type && f.offset == 0 && g.offset == 3 && h.offset == 4 && f.name != "_" && g.name != "_" && h.name != "_" && !P.stoodInHeld t && !P.eqGuardType P.depth t
    | _ => false
  | _ => false
section
variable {w0 w : World} {G G' : Im} {H H1 : Hp} {n : Nat} {ds : List Deferred} {env : Env} {P : Program} {R : Act → World → Prop} {ops : Array Oper} {Q : Exit → Act → World → Prop} {K : Act → World → Prop}
variable {dst : Option Tmp} {d : Nat} {ty : TypeId} {pos : String} {aft : Array Edge} {g : Option (Nat × Bool)}

theorem run_part_agg {t : TypeId} {xs : Array Value} {off s : Nat} (ha : aggB P t = some true) (hz : szB P t = some s) : (part t xs off).run P w = .ok (.agg (xs.extract off (off + s))) w := by
  simp [part, run_isAgg' ha, run_sizeOf' hz]
theorem run_eq5 {t : TypeId} (x y : P5) (h : st5B P t = true) (dp : Nat) : (Op.equalIn (dp + 3) t x.V y.V).run P w = .ok (decide (x = y)) w ∧ P.eqGuardType P.depth t = false := by
  unfold st5B at h
  split at h
  · rename_i fs hu
    split at h
    · rename_i f1 f2 f3 hfs
      simp only [Bool.and_eq_true, beq_iff_eq, bne_iff_ne, Bool.not_eq_true'] at h
      obtain ⟨⟨⟨⟨⟨⟨⟨⟨⟨⟨⟨⟨h1, hz⟩, ha⟩, h2⟩, h3⟩, o1⟩, o2⟩, o3⟩, n1⟩, n2⟩, n3⟩, hst⟩, heg⟩ := h
      refine ⟨?_, heg⟩
      have hf : P.fieldsOf t = fs := by unfold Program.fieldsOf; rw [hu]
      have hu' : P.underlying t = some (.struct (P.fieldsOf t)) := by rw [hf]; exact hu
      rw [run_equalIn_struct w (dp + 2) t _ _ hu' hst, hf, hfs]
      have p1 : ∀ (v1 v2 v3 v4 v5 : Value), (part f1.type #[v1, v2, v3, v4, v5] f1.offset).run P w = .ok (.agg #[v1, v2, v3]) w := fun v1 v2 v3 v4 v5 => by rw [o1, run_part_agg ha hz]; rfl
      have p2 : ∀ (v1 v2 v3 v4 v5 : Value), (part f2.type #[v1, v2, v3, v4, v5] f2.offset).run P w = .ok v4 w := fun v1 v2 v3 v4 v5 => run_part_i64 h2 (by rw [o2]; rfl)
      have p3 : ∀ (v1 v2 v3 v4 v5 : Value), (part f3.type #[v1, v2, v3, v4, v5] f3.offset).run P w = .ok v5 w := fun v1 v2 v3 v4 v5 => run_part_i64 h3 (by rw [o3]; rfl)
      have e1 := (run_eq3 (w := w) (a := x.c) (b := x.l) (c := x.n) (a' := y.c) (b' := y.l) (c' := y.n) h1 dp).1
      have e2 := fun p q => run_equalIn_int (P := P) w (dp + 1) f2.type .i64 .i64 p q (i64B_spec h2)
      have e3 := fun p q => run_equalIn_int (P := P) w (dp + 1) f3.type .i64 .i64 p q (i64B_spec h3)
      have hd : decide (x = y) = (((decide (x.c = y.c) && decide (x.l = y.l) && decide (x.n = y.n)) && decide (x.a = y.a)) && decide (x.k = y.k)) := by
        cases x; cases y; simp [Bool.and_assoc]
      rw [hd]
      generalize (decide (x.c = y.c) && decide (x.l = y.l) && decide (x.n = y.n)) = β at e1 ⊢
      cases β
      · simp [Op.eqFields, n1, n2, n3, p1, p2, p3, e1]
      · by_cases hb : x.a = y.a <;> by_cases hk : x.k = y.k <;> simp [Op.eqFields, n1, n2, n3, p1, p2, p3, e1, e2, e3, hb, hk]
    · cases h
  · cases h
theorem v_eqP (p q : P5) {x y : Operand} {t t' : TypeId} (hx : ev env x = some p.V) (hy : ev env y = some q.V) (h : st5B P t = true) :
    Val P env G H ⟨dst, .binOp .eql t x y t', ty, pos, aft, g⟩ (.bool (decide (p = q))) := fun ac n ds w0 w ht hs => by
  obtain ⟨h1, h2⟩ := run_eq5 (w := w) p q h 9997
  have h3 := run_eqGuard_agg (P := P) w .eql t x y #[I64 p.c, I64 p.l, I64 p.n, I64 p.a, I64 p.k] #[I64 q.c, I64 q.l, I64 q.n, I64 q.a, I64 q.k] h2
  simp only [execOp, ht.eval hx, ht.eval hy, Sem.run_bind, h3, Result.andThen_ok, run_eql_struct, h1, Sem.run_pure]
theorem v_neP (p q : P5) {x y : Operand} {t t' : TypeId} (hx : ev env x = some p.V) (hy : ev env y = some q.V) (h : st5B P t = true) :
    Val P env G H ⟨dst, .binOp .neq t x y t', ty, pos, aft, g⟩ (.bool (!decide (p = q))) := fun ac n ds w0 w ht hs => by
  obtain ⟨h1, h2⟩ := run_eq5 (w := w) p q h 9997
  have h3 := run_eqGuard_agg (P := P) w .neq t x y #[I64 p.c, I64 p.l, I64 p.n, I64 p.a, I64 p.k] #[I64 q.c, I64 q.l, I64 q.n, I64 q.a, I64 q.k] h2
  simp only [execOp, ht.eval hx, ht.eval hy, Sem.run_bind, h3, Result.andThen_ok, run_neq_struct, h1, Sem.run_pure]

theorem s_storeAt {t t' : TypeId} {x y : Operand} {b o : Nat} {vs L : List Value} (hg : gOn ops env ⟨none, .store t x y, ty, pos, aft, g⟩ = some true)
    (hx : ev env x = some (Pt b o)) (hy : ev env y = some (.agg vs.toArray)) (hp : Pick b (Cs L t') H H1) (hz : szB P t = some vs.length) (h1 : ∀ u ∈ vs, u.oneCell' = true) (hl : o + vs.length ≤ L.length)
    (k : Holds n ds w0 env G ((b, Cs (L.take o ++ vs ++ L.drop (o + vs.length)) t') :: H1) K) :
    Holds n ds w0 env G H (stepK P ops Q ⟨none, .store t x y, ty, pos, aft, g⟩ K) := by
  refine s_store hg hx hy hp (by simpa [Value.cells] using hz) (by simpa [Value.cells] using h1) (by simpa [Value.cells] using hl) ?_
  simpa [Value.cells] using k
theorem Recs.set {α V : Type} {s : Nat} {R : List V → α → Prop} {L : List V} {xs : List α} (h : Recs s R L xs) {j : Nat} (hj : j < xs.length) {c : List V} {x : α} (hc : c.length = s) (hR : R c x) : Recs s R (L.take (j * s) ++ c ++ L.drop (j * s + s)) (xs.set j x) := by
  have h1 := ((h.take j).append (Recs.one hc hR)).append (h.drop (j + 1))
  rw [Nat.add_mul, Nat.one_mul] at h1
  have : xs.take j ++ [x] ++ xs.drop (j + 1) = xs.set j x := (by rw [List.set_eq_take_append_cons_drop, if_pos hj]; simp)
  rwa [this] at h1

/-- An own slice of the records xs; its block may be longer. -/
def LOwn {α : Type} (s : Nat) (R : List Value → α → Prop) (e : TypeId) (v : Value) (xs : List α) (B : Hp) : Prop :=
  (∃ ad, v = .slice ad 0 0 ∧ xs = [] ∧ B = []) ∨ ∃ b c L sl, v = Sl b 0 xs.length c ∧ xs.length ≤ c ∧ c ≤ maxLen ∧ B = [(b, Cs (L ++ sl) e)] ∧ Recs s R L xs
section
variable {α : Type} {s : Nat} {Rc : List Value → α → Prop} {e : TypeId} {v : Value} {xs : List α} {B : Hp}
theorem LOwn.zero (ad : Option Addr) : LOwn s Rc e (.slice ad 0 0) [] [] := .inl ⟨ad, rfl, rfl, rfl⟩
theorem LOwn.form (h : LOwn s Rc e v xs B) : ∃ ad c, v = .slice ad xs.length c ∧ xs.length ≤ c ∧ c ≤ maxLen := by
  rcases h with ⟨ad, rfl, rfl, _⟩ | ⟨b, c, L, sl, rfl, h1, h2, _⟩
  · exact ⟨ad, 0, rfl, Nat.le_refl _, by simp [maxLen]⟩
  · exact ⟨_, c, rfl, h1, h2⟩
theorem LOwn.here (h : LOwn s Rc e v xs B) (hB : ∀ p, p ∈ B → p ∈ H) : RecH s (fun _ => Rc) G H v xs := by
  rcases h with ⟨ad, rfl, rfl, _⟩ | ⟨b, c, L, sl, rfl, h1, h2, rfl, h3⟩
  · exact ⟨[], ⟨ad, 0, rfl, Nat.le_refl _, by simp [maxLen], .inl ⟨rfl, fun _ => rfl⟩⟩, Recs.nil⟩
  · refine ⟨L, ⟨_, c, rfl, h1, h2, .inr ⟨b, 0, rfl, fun j u hj => ⟨_, _, _, .inr (hB _ (List.mem_singleton.2 rfl)), ?_⟩⟩⟩, h3⟩
    simp only [List.getElem?_toArray, Nat.zero_add]
    rw [List.getElem?_append_left (List.getElem?_eq_some_iff.1 hj).1]; exact hj
/-- s[:k:k] -/
theorem LOwn.cut {ad : Option Addr} {c : Nat} (h : LOwn s Rc e (.slice ad xs.length c) xs B) (k : Nat) (hk : k ≤ xs.length) : ∃ B', (∀ f : Nat × Obj → Nat, (B'.map f).sum ≤ (B.map f).sum) ∧ LOwn s Rc e (.slice ad k k) (xs.take k) B' := by
  by_cases h0 : k = 0
  · subst h0; exact ⟨[], by simp, .inl ⟨ad, rfl, by simp, rfl⟩⟩
  · rcases h with ⟨ad', hv, rfl, _⟩ | ⟨b, c', L, sl, hv, h1, h2, rfl, h3⟩
    · simp at hk; omega
    · cases hv
      have hl : (xs.take k).length = k := by rw [List.length_take]; omega
      refine ⟨_, fun f => Nat.le_refl _, .inr ⟨b, k, L.take (k * s), L.drop (k * s) ++ sl, by rw [hl], by rw [hl]; exact Nat.le_refl _, by omega, ?_, h3.take k⟩⟩
      rw [← List.append_assoc, List.take_append_drop]
/-- A record is put into it. -/
theorem LOwn.put (h : LOwn s Rc e v xs B) (j : Nat) (hj : j < xs.length) : ∃ b c L, v = Sl b 0 xs.length c ∧ B = [(b, Cs L e)] ∧ j * s + s ≤ L.length ∧
    ∀ (cs : List Value) (x : α), cs.length = s → Rc cs x → LOwn s Rc e v (xs.set j x) [(b, Cs (L.take (j * s) ++ cs ++ L.drop (j * s + s)) e)] := by
  rcases h with ⟨ad', hv, rfl, _⟩ | ⟨b, c, L, sl, rfl, h1, h2, rfl, h3⟩
  · simp at hj
  · have h4 : (j + 1) * s ≤ xs.length * s := Nat.mul_le_mul_right _ hj
    rw [Nat.add_mul, Nat.one_mul] at h4
    have hL : L.length = xs.length * s := h3.1
    refine ⟨b, c, L ++ sl, rfl, rfl, by rw [List.length_append]; omega, fun cs x hc hx => ?_⟩
    refine .inr ⟨b, c, L.take (j * s) ++ cs ++ L.drop (j * s + s), sl, by rw [List.length_set], by rw [List.length_set]; exact h1, h2, ?_, h3.set hj hc hx⟩
    have hle : j * s + s ≤ L.length := by omega
    rw [List.take_append_of_le_length (by omega), List.drop_append_of_le_length hle, List.append_assoc, List.append_assoc, List.append_assoc]
theorem LOwn.of_own {k : Nat} {L : List Value} (h : Own v k L e s B) (hR : Recs s Rc L xs) (hk : k = xs.length) : LOwn s Rc e v xs B := by
  subst hk
  obtain ⟨hl, ⟨ad, rfl, h0, rfl⟩ | ⟨b, c, sl, rfl, hc, hkc, _, rfl⟩⟩ := h
  · have : xs = [] := List.eq_nil_of_length_eq_zero h0
    subst this; exact .inl ⟨ad, rfl, rfl, rfl⟩
  · exact .inr ⟨b, c, L, sl, rfl, hkc, hc, rfl, hR⟩

theorem run_append_zgrow {t ti ty e : TypeId} {i : TypeInfo} {z : Value} (ht : P.underlying t = some (.slice e)) (hti : P.underlying ti = some (.int .i64)) (hi : P.info? e = some i) (hz : i.zero = some z)
    (ad : Option Addr) (k : Nat) (olds : List Value) (hf : (Builtin.firstCells i.size k (.slice ad k k)).run P w.drew = .ok olds.toArray w.drew) (m : Nat)
    (h0 : 0 < m) (hs0 : 0 < i.size) (hm : (m : Int) * i.bytes ≤ 281474976710656) (hmm : (m : Int) ≤ 9223372036854775807) (h63 : ((k + m : Nat) : Int) ≤ 9223372036854775807) (hfit : Builtin.nextslicecap (k + m) k * i.bytes ≤ 281474976710656) :
    (Builtin.append_ #[t, ti] ty #[.slice ad k k, .int .i64 (m : Int)]).run P w =
      .ok (.slice (some ⟨w.heap.size, 0, none⟩) (k + m) (grownCap w (k + m) k e))
        (w.drew.alloc (.cells (olds.toArray ++ Builtin.zeroCells z.cells m ++ Builtin.zeroCells z.cells (grownCap w (k + m) k e - (k + m))) e)) := by
  have hn : ¬ (k + m ≤ k) := by omega
  have hwrap : IntKind.i64.wrap (m : Int) = m := IntWalk.i64_in _ ⟨by omega, hmm⟩
  have hneg : ¬ ((m : Int) < 0) := by omega
  have hbig : ¬ (281474976710656 < (m : Int) * i.bytes) := by omega
  have h63' : ¬ (9223372036854775807 < ((k : Int) + (m : Int))) := by omega
  have h48' : ¬ (281474976710656 < Builtin.nextslicecap (k + m) k * i.bytes) := by omega
  have hm0 : ¬ (m * i.size = 0) := by intro h; rcases Nat.mul_eq_zero.1 h with h | h <;> omega
  have hm1 : ¬ m = 0 := by omega
  have hs1 : ¬ i.size = 0 := by omega
  have hmx : ¬ (9223372036854775807 < (k : Int) + max (m : Int) 0) := by omega
  simp [Builtin.append_, run_underlying ht, run_underlying hti, sizeOf, typeInfo, zeroValue, hi, hz, asInt, asIntOf, hwrap, hmx, hneg, hbig, hn, h63', h48', Question.forced, hf, newRow, grownCap, hm0, hm1, hs1]

theorem recs_zeros {α : Type} {Rc : List Value → α → Prop} {z : Value} {x0 : α} (m : Nat) (hz : 0 < z.cells.size) (hx : Rc z.cells.toList x0) : Recs z.cells.size Rc (Builtin.zeroCells z.cells m).toList (List.replicate m x0) := by
  refine ⟨by rw [Array.length_toList, size_zeroCells, List.length_replicate], fun j x hj => ?_⟩
  have hjm : j < m := by have := (List.getElem?_eq_some_iff.1 hj).1; simpa using this
  have hxe : x = x0 := by have := List.mem_of_getElem? hj; exact List.eq_of_mem_replicate this
  subst hxe
  have hmul : (j + 1) * z.cells.size ≤ m * z.cells.size := Nat.mul_le_mul_right _ hjm
  rw [Nat.add_mul, Nat.one_mul] at hmul
  have : ((Builtin.zeroCells z.cells m).toList.drop (j * z.cells.size)).take z.cells.size = z.cells.toList := by
    apply List.ext_getElem
    · simp [Builtin.zeroCells]; omega
    · intro f h1 h2
      have hf : f < z.cells.size := by simpa using h2
      have hmod : (j * z.cells.size + f) % z.cells.size = f := by rw [Nat.mul_comm, Nat.mul_add_mod, Nat.mod_eq_of_lt hf]
      simp [Builtin.zeroCells, hmod, hf]
  rw [this]; exact hx
theorem s_appendZ {α : Type} {Rc : List Value → α → Prop} {s x : Operand} {t ti e : TypeId} {z : Value} {sz bs : Nat} {ad : Option Addr} {k m : Nat} {xs : List α} {L : List Value} (x0 : α)
    (hm : mkB P t = some (e, z, sz, bs)) (hti : i64B P ti = true) (hs : ev env s = some (.slice ad k k)) (hx : ev env x = some (I64 (m : Int)))
    (hg : gOn ops env ⟨some d, .call { callee := .builtin .append, args := #[s, x], argTypes := #[t, ti] }, ty, pos, aft, g⟩ = some true) (hd : Nat.blt d n = true)
    (hsl : SV G H (.slice ad k k) k L) (hR : Recs sz Rc L xs) (hk : k = xs.length) (hz : z.cells.size = sz) (hsz : 0 < sz) (hx0 : Rc z.cells.toList x0) (h0 : 0 < m) (h63 : k + m ≤ 1000000) (hb : bs ≤ 10000)
    (hK : ∀ v' B', LOwn sz Rc e v' (xs ++ List.replicate m x0) B' → Holds n ds w0 ((d, v') :: env) G (B' ++ H) K) :
    Holds n ds w0 env G H (stepK P ops Q ⟨some d, .call { callee := .builtin .append, args := #[s, x], argTypes := #[t, ti] }, ty, pos, aft, g⟩ K) := by
  refine s_eff (Φ := fun v' w' => ∃ B', LOwn sz Rc e v' (xs ++ List.replicate m x0) B' ∧ Sat w0 w' G (B' ++ H)) hg rfl hd (fun a n ds w ht hsat => ?_) (fun v' w' ⟨B', ho, hs⟩ => (hK v' B' ho).atw hs)
  obtain ⟨i, hu, hi, hzero, hsz', hbs'⟩ := mkB_spec hm
  have hLk : L.length = k * sz := by rw [hR.1, hk]
  have hfc : (Builtin.firstCells i.size k (.slice ad k k)).run P w.drew = .ok L.toArray w.drew := by
    obtain ⟨ad', c', he, _, _, h3⟩ := hsl
    cases he
    rcases h3 with ⟨hL0, hn⟩ | ⟨b, o, rfl, hc⟩
    · have hk0 : k = 0 := by
        rw [hL0] at hLk
        rcases Nat.mul_eq_zero.1 hLk.symm with h | h <;> omega
      rw [hL0, hk0]
      cases ad <;> simp [Builtin.firstCells, loadCells, loadCellsFrom]
    · exact run_firstCells_some (P := P) w.drew i.size k ⟨b, o, none⟩ k k L (by rw [hLk, hsz']) (fun j v hj => by rw [addr_add]; exact (hc j v hj).cell hsat.drew)
  have hbb : (k + m) * bs ≤ 1000000 * 10000 := Nat.mul_le_mul h63 hb
  have hbm : m * bs ≤ 1000000 * 10000 := Nat.mul_le_mul (by omega) hb
  have h5 : (m : Int) * (bs : Int) ≤ 281474976710656 := by
    have h6 : ((m * bs : Nat) : Int) ≤ 281474976710656 := by omega
    rwa [Int.natCast_mul] at h6
  have hr := run_append_zgrow (P := P) (w := w) (ty := ty) hu (i64B_spec hti) hi hzero ad k L hfc m h0 (by omega) (by rw [hbs']; exact h5) (by omega) (by omega) (by rw [hbs']; exact growslice_fits (by omega) (by omega))
  have hge := grownCap_ge w (k + m) k e
  have hcm := grownCap_le_maxLen w (k + m) k e (by unfold maxLen; omega)
  have h2 := (hsat.drew).alloc (.cells (L.toArray ++ Builtin.zeroCells z.cells m ++ Builtin.zeroCells z.cells (grownCap w (k + m) k e - (k + m))) e)
  have h3 : L.toArray ++ Builtin.zeroCells z.cells m = (L ++ (Builtin.zeroCells z.cells m).toList).toArray := by apply Array.ext'; simp
  rw [h3] at hr h2
  rw [cs_app] at hr h2
  have hlen : (xs ++ List.replicate m x0).length = k + m := by simp [hk]
  have hzs : Recs sz Rc (Builtin.zeroCells z.cells m).toList (List.replicate m x0) := by rw [← hz]; exact recs_zeros m (by omega) hx0
  refine ⟨_, _, ?_, [(w.heap.size, Cs (L ++ (Builtin.zeroCells z.cells m).toList ++ (Builtin.zeroCells z.cells (grownCap w (k + m) k e - (k + m))).toList) e)], .inr ⟨w.heap.size, _, _, _, by rw [hlen], by rw [hlen]; exact hge, hcm, rfl, hR.append hzs⟩, h2⟩
  simp [execOp, resolve, invoke, builtin, ht.eval hs, ht.eval hx, hr]
end
end
end

section
open Go
set_option linter.unusedVariables false
set_option linter.unusedSimpArgs false
variable {w0 w : World} {G G' : Im} {H H' H1 : Hp}
variable {n : Nat} {ds : List Deferred} {env : Env} {P : Program} {Q : Exit → Act → World → Prop} {R : Act → World → Prop} {ops : Array Oper} {rest : List Oper} {K : Act → World → Prop}
variable {dst : Option Tmp} {d : Nat} {ty : TypeId} {pos : String} {aft : Array Edge} {g : Option (Nat × Bool)}
/-- As Own; the block may be longer. -/
def AOwn (v : Value) (k : Nat) (L : List Value) (e : TypeId) (sz : Nat) (B : Hp) : Prop :=
  L.length = k * sz ∧ ((∃ ad, v = .slice ad 0 0 ∧ k = 0 ∧ B = []) ∨ ∃ b c sl, v = Sl b 0 k c ∧ c ≤ maxLen ∧ k ≤ c ∧ c * sz ≤ L.length + sl.length ∧ B = [(b, Cs (L ++ sl) e)])
theorem e_appendA {s x : Operand} {t e : TypeId} {z : Value} {sz bs : Nat} {v vx : Value} {k m : Nat} {L news : List Value} {B : Hp}
    (hs : ev env s = some v) (hx : ev env x = some vx) (hown : AOwn v k L e sz B) (hch : Chunk B H H1) (hsv : SV G H vx m news) (hm : mkB P t = some (e, z, sz, bs)) (hz : z.cells.size = sz) (hsz : 0 < sz)
    (hl : news.length = m * sz) (h1 : ∀ u ∈ news, u.oneCell' = true) (h63 : k + m ≤ 140737488355328) (hb : (k + m) * bs ≤ 140737488355328) :
    Eff P w0 env G H ⟨dst, .call { callee := .builtin .append, args := #[s, x], argTypes := #[t, t] }, ty, pos, aft, g⟩ (fun v' w' => ∃ B', AOwn v' (k + m) (L ++ news) e sz B' ∧ Sat w0 w' G (B' ++ H1)) := fun a n ds w ht hsat => by
  obtain ⟨i, hu, hi, hzero, hsz', hbs'⟩ := mkB_spec hm
  have hop : ∀ v' w', (Builtin.append_ #[t, t] ty #[v, vx]).run P w = .ok v' w' → (execOp a.eval ⟨dst, .call { callee := .builtin .append, args := #[s, x], argTypes := #[t, t] }, ty, pos, aft, g⟩).run P w = .ok (.value v') w' := fun v' w' hr => by
    simp [execOp, resolve, invoke, builtin, ht.eval hs, ht.eval hx, hr]
  have hsat1 : Sat w0 w G (B ++ H1) := hsat.perm hch
  have hmax : k + m ≤ maxLen := by unfold maxLen; omega
  obtain ⟨ad, c, rfl, hmc, hcm, hcells⟩ := hsv
  by_cases hm0 : m = 0
  · -- nothing is appended
    subst hm0
    have hn : news = [] := List.eq_nil_of_length_eq_zero (by simpa using hl)
    subst hn
    refine ⟨v, w, hop _ _ ?_, B, by simpa using hown, hsat1⟩
    have hfc : (Builtin.firstCells i.size 0 (.slice ad 0 c)).run P w = .ok #[] w := by cases ad <;> simp [Builtin.firstCells, loadCells, loadCellsFrom]
    obtain ⟨_, ⟨ad0, rfl, rfl, _⟩ | ⟨b, c, sl, rfl, _, hkc, _⟩⟩ := hown
    · cases ad0 <;> simp [storeCells, Builtin.append_, run_underlying hu, sizeOf, typeInfo, hi, Builtin.lenOf, hfc]
    · simp [Builtin.append_, run_underlying hu, sizeOf, typeInfo, hi, Builtin.lenOf, hfc, hkc, storeCells]
  rcases hcells with ⟨rfl, _⟩ | ⟨bx, ox, rfl, hcel⟩
  · have : m * sz = 0 := by simpa using hl.symm
    rcases Nat.mul_eq_zero.1 this with h | h <;> omega
  have hnews : ∀ j u, news[j]? = some u → w.cell? ((⟨bx, ox, none⟩ : Addr).add j) = some u := fun j u hj => by rw [addr_add]; exact (hcel j u hj).cell hsat
  have hlL : L.length = k * i.size := by rw [hown.1, hsz']
  have hlN : news.length = m * i.size := by rw [hl, hsz']
  obtain ⟨hlen, ⟨ad0, rfl, rfl, rfl⟩ | ⟨b, cap, sl, rfl, hcap, hkc, hcs, rfl⟩⟩ := hown
  · have hL : L = [] := List.eq_nil_of_length_eq_zero (by simpa using hlen)
    subst hL
    · have hge := grownCap_ge w m 0 e
      have hcm := grownCap_le_maxLen w m 0 e (by unfold maxLen; omega)
      have h2 := (hsat1.drew).alloc (.cells (news.toArray ++ Builtin.zeroCells z.cells (grownCap w m 0 e - m)) e)
      have hsz2 : ([] ++ news).length + (Builtin.zeroCells z.cells (grownCap w m 0 e - m)).toList.length = grownCap w m 0 e * sz := by
        have h2 := size_zeroCells z.cells (grownCap w m 0 e - m)
        rw [← Array.length_toList, hz] at h2
        rw [h2, List.nil_append, hl, ← Nat.add_mul]; congr 1; omega
      have hown' : AOwn (.slice (some ⟨w.heap.size, 0, none⟩) (0 + m) (grownCap w m 0 e)) (0 + m) ([] ++ news) e sz [(w.heap.size, Cs ([] ++ news ++ (Builtin.zeroCells z.cells (grownCap w m 0 e - m)).toList) e)] :=
        ⟨by simpa using hl, .inr ⟨w.heap.size, _, (Builtin.zeroCells z.cells (grownCap w m 0 e - m)).toList, rfl, hcm, by simpa using hge, Nat.le_of_eq hsz2.symm, rfl⟩⟩
      cases ad0 with
      | none =>
        have hr := run_append_nil (P := P) w t ty e i z hu hi hzero ⟨bx, ox, none⟩ m c news hlN hnews (by omega) (by omega) (by rw [hbs']; have := hb; rw [Nat.zero_add] at this; omega)
        rw [cs_app] at hr h2
        rw [Nat.zero_add] at hown' ⊢
        exact ⟨_, _, hop _ _ hr, _, hown', h2⟩
      | some a0 =>
        have hr := run_append_grow (P := P) w t ty e i z hu hi hzero a0 0 0 [] (by simp) (by simp) ⟨bx, ox, none⟩ m c news hlN hnews (by omega) (by omega) (by rw [hbs']; exact growslice_fits (by omega) hb)
        rw [Nat.zero_add] at hr hown' ⊢
        have h3 : ([] : List Value).toArray ++ news.toArray = news.toArray := by simp
        rw [h3, cs_app] at hr
        rw [cs_app] at h2
        exact ⟨_, _, hop _ _ hr, _, hown', h2⟩
  · have hb1 : w.heap[b]? = some (.cells (L ++ sl).toArray e (0, 0)) := hsat1.own _ (List.mem_cons_self ..)
    by_cases hroom : k + m ≤ cap
    · have hfit : k * i.size + news.length ≤ (L ++ sl).toArray.size := by
        simp only [List.size_toArray, List.length_append]
        have h5 := Nat.mul_le_mul_right sz hroom
        rw [hlN, ← Nat.add_mul, hsz']; omega
      have hr := run_append_room (P := P) w t ty e i hu hi b k cap _ hb1 ⟨bx, ox, none⟩ m c news hlN hnews h1 hroom hfit
      have e1 : (L ++ sl).take (k * i.size) = L := by rw [← hlL, List.take_left]
      have e2 : (L ++ sl).drop (k * i.size + news.length) = sl.drop news.length := by rw [← hlL, List.drop_append]; simp
      simp only [e1, e2] at hr
      refine ⟨_, _, hop _ _ hr, _, ⟨by rw [List.length_append, hlen, hl, Nat.add_mul], .inr ⟨b, cap, sl.drop news.length, rfl, hcap, hroom, ?_, rfl⟩⟩, ?_⟩
      · simp only [List.size_toArray, List.length_append] at hfit
        rw [List.length_append, List.length_drop]; omega
      · exact hsat1.upd rfl rfl rfl (by simp) (setRow_heap w b _ _ e (0, 0) hb1) (fun j _ hj => setRow_other w b j _ hj)
    · have holds : ∀ j u, L[j]? = some u → w.cell? ((⟨b, 0, none⟩ : Addr).add j) = some u := fun j u hj => by
        rw [addr_add, cell_of_row w b _ _ _ _ hb1]
        have hlt : j < L.length := (List.getElem?_eq_some_iff.1 hj).1
        simp only [List.getElem?_toArray, Nat.zero_add]
        rw [List.getElem?_append_left hlt]; exact hj
      have hr := run_append_grow (P := P) w t ty e i z hu hi hzero ⟨b, 0, none⟩ k cap L hlL holds ⟨bx, ox, none⟩ m c news hlN hnews (by omega) (by omega) (by rw [hbs']; exact growslice_fits (by omega) hb)
      have hge := grownCap_ge w (k + m) cap e
      have hcm := grownCap_le_maxLen w (k + m) cap e hmax
      refine ⟨_, _, hop _ _ hr, _, ⟨by rw [List.length_append, hlen, hl, Nat.add_mul], .inr ⟨w.heap.size, _, (Builtin.zeroCells z.cells (grownCap w (k + m) cap e - (k + m))).toList, rfl, hcm, hge, Nat.le_of_eq ?_, rfl⟩⟩, ?_⟩
      · have h2 := size_zeroCells z.cells (grownCap w (k + m) cap e - (k + m))
        rw [← Array.length_toList, hz] at h2
        show _ = (L ++ news).length + _
        rw [h2, List.length_append, hlen, hl, ← Nat.add_mul, ← Nat.add_mul]; congr 1; omega
      · have h2 := (hsat1.tl.drew).alloc (.cells (L.toArray ++ news.toArray ++ Builtin.zeroCells z.cells (grownCap w (k + m) cap e - (k + m))) e)
        have h3 : L.toArray ++ news.toArray = (L ++ news).toArray := by simp
        rw [h3, cs_app] at h2 ⊢
        exact h2
theorem s_appendA {s x : Operand} {t e : TypeId} {z : Value} {sz bs : Nat} {v vx : Value} {k m : Nat} {L news : List Value} {B : Hp}
    (hm : mkB P t = some (e, z, sz, bs)) (hs : ev env s = some v) (hx : ev env x = some vx) (hg : gOn ops env ⟨some d, .call { callee := .builtin .append, args := #[s, x], argTypes := #[t, t] }, ty, pos, aft, g⟩ = some true) (hd : Nat.blt d n = true)
    (hown : AOwn v k L e sz B) (hch : Chunk B H H1) (hsv : SV G H vx m news) (hz : z.cells.size = sz) (hsz : 0 < sz)
    (hl : news.length = m * sz) (h1 : ∀ u ∈ news, u.oneCell' = true) (h63 : k + m ≤ 140737488355328) (hb : (k + m) * bs ≤ 140737488355328)
    (hK : ∀ v' B', AOwn v' (k + m) (L ++ news) e sz B' → Holds n ds w0 ((d, v') :: env) G (B' ++ H1) K) :
    Holds n ds w0 env G H (stepK P ops Q ⟨some d, .call { callee := .builtin .append, args := #[s, x], argTypes := #[t, t] }, ty, pos, aft, g⟩ K) :=
  s_eff hg rfl hd (e_appendA hs hx hown hch hsv hm hz hsz hl h1 h63 hb) (fun v' w' ⟨B', ho, hs⟩ => (hK v' B' ho).atw hs)


/-- An own slice of the records xs that grows; its block may be longer. -/
def RA {α : Type} (s : Nat) (R : List Value → α → Prop) (e : TypeId) (v : Value) (xs : List α) (B : Hp) : Prop := ∃ L, AOwn v xs.length L e s B ∧ Recs s R L xs
section
variable {α : Type} {s : Nat} {Rc : List Value → α → Prop} {e : TypeId} {v : Value} {xs : List α} {B : Hp}
theorem RA.zero (ad : Option Addr) : RA s Rc e (.slice ad 0 0) [] [] := ⟨[], ⟨by simp, .inl ⟨ad, rfl, rfl, rfl⟩⟩, Recs.nil⟩
theorem RA.lo (h : RA s Rc e v xs B) : LOwn s Rc e v xs B := by
  obtain ⟨L, ⟨_, ⟨ad, rfl, h0, rfl⟩ | ⟨b, c, sl, rfl, hc, hkc, _, rfl⟩⟩, hR⟩ := h
  · have : xs = [] := List.eq_nil_of_length_eq_zero h0
    subst this; exact .inl ⟨ad, rfl, rfl, rfl⟩
  · exact .inr ⟨b, c, L, sl, rfl, hkc, hc, rfl, hR⟩
theorem RA.form (h : RA s Rc e v xs B) : ∃ ad c, v = .slice ad xs.length c ∧ xs.length ≤ c ∧ c ≤ maxLen := h.lo.form
theorem RA.here {G : Im} {H : Hp} (h : RA s Rc e v xs B) (hB : ∀ p, p ∈ B → p ∈ H) : RecH s (fun _ => Rc) G H v xs := h.lo.here hB
theorem RA.cut {ad : Option Addr} {c : Nat} (h : RA s Rc e (.slice ad xs.length c) xs B) (k : Nat) (hk : k ≤ xs.length) : ∃ B', (∀ f : Nat × Obj → Nat, (B'.map f).sum ≤ (B.map f).sum) ∧ RA s Rc e (.slice ad k k) (xs.take k) B' := by
  by_cases h0 : k = 0
  · subst h0; exact ⟨[], by simp, RA.zero ad⟩
  · obtain ⟨L, ⟨hL, ⟨ad', hv, h1, _⟩ | ⟨b, c', sl, hv, h1, h2, h3, rfl⟩⟩, hR⟩ := h
    · omega
    · cases hv
      have hl : (xs.take k).length = k := by rw [List.length_take]; omega
      have hks : k * s ≤ xs.length * s := Nat.mul_le_mul_right _ hk
      refine ⟨_, fun f => Nat.le_refl _, L.take (k * s), ⟨by rw [hl, List.length_take]; omega, .inr ⟨b, k, L.drop (k * s) ++ sl, by rw [hl], by omega, by rw [hl]; exact Nat.le_refl _, ?_, ?_⟩⟩, hR.take k⟩
      · rw [List.length_take, List.length_append, List.length_drop]; omega
      · rw [← List.append_assoc, List.take_append_drop]
theorem RA.put (h : RA s Rc e v xs B) (j : Nat) (hj : j < xs.length) : ∃ b c L, v = Sl b 0 xs.length c ∧ B = [(b, Cs L e)] ∧ j * s + s ≤ L.length ∧
    ∀ (cs : List Value) (x : α), cs.length = s → Rc cs x → RA s Rc e v (xs.set j x) [(b, Cs (L.take (j * s) ++ cs ++ L.drop (j * s + s)) e)] := by
  obtain ⟨L, ⟨hL, ⟨ad', hv, h1, _⟩ | ⟨b, c, sl, rfl, h1, h2, h3, rfl⟩⟩, hR⟩ := h
  · omega
  · have h4 : (j + 1) * s ≤ xs.length * s := Nat.mul_le_mul_right _ hj
    rw [Nat.add_mul, Nat.one_mul] at h4
    have hle : j * s + s ≤ L.length := by omega
    refine ⟨b, c, L ++ sl, rfl, rfl, by rw [List.length_append]; omega, fun cs x hc hx => ?_⟩
    have hn : (L.take (j * s) ++ cs ++ L.drop (j * s + s)).length = L.length := by simp; omega
    refine ⟨L.take (j * s) ++ cs ++ L.drop (j * s + s), ⟨by rw [List.length_set, hn]; exact hL, .inr ⟨b, c, sl, by rw [List.length_set], h1, by rw [List.length_set]; exact h2, by rw [hn]; exact h3, ?_⟩⟩, hR.set hj hc hx⟩
    rw [List.take_append_of_le_length (by omega), List.drop_append_of_le_length hle, List.append_assoc, List.append_assoc, List.append_assoc]
end
end
end Go.Proofs.Ytobhlbhklblncaa
