/- How the arguments of package note's laws are read. From a contract to what a law says. -/
import Derived.Test.YtobhlbhklblncaaK4
import Derived.Test.YtobhlbhklblncaaK9
import Derived.Test.YtobhlbhklblncaaK8
namespace Go.Proofs.Ytobhlbhklblncaa
section
open Go Go.ChangeShapes Go.WideShapes Go.ChangeAt Go.RowKit
set_option linter.unusedVariables false
set_option maxRecDepth 100000

theorem list5 {α : Type} : ∀ (cs : List α), cs.length = 5 → ∃ a b c d e, cs = [a, b, c, d, e]
  | [a, b, c, d, e], _ => ⟨a, b, c, d, e, rfl⟩
theorem list14 {α : Type} : ∀ (cs : List α), cs.length = 14 → ∃ c0 c1 c2 c3 c4 c5 c6 c7 c8 c9 c10 c11 c12 c13, cs = [c0, c1, c2, c3, c4, c5, c6, c7, c8, c9, c10, c11, c12, c13]
  | [c0, c1, c2, c3, c4, c5, c6, c7, c8, c9, c10, c11, c12, c13], _ => ⟨c0, c1, c2, c3, c4, c5, c6, c7, c8, c9, c10, c11, c12, c13, rfl⟩
theorem rd_ptr {H : Type} {enc : TypeId × Value → H} {W : World} (cs : List Value) (h : Rd enc Try.prog W 73 cs) : ∃ x : P5, cs = x.cells := by
  have hl : cs.length = 5 := (rd_len Try.underlying73 h).trans (by kernel_rfl)
  have h0 := rd_field Try.underlying73 h (i := 0) rfl
  have h00 := rd_field Try.underlying71 h0 (i := 0) rfl
  have h01 := rd_field Try.underlying71 h0 (i := 1) rfl
  have h02 := rd_field Try.underlying71 h0 (i := 2) rfl
  have h1 := rd_field Try.underlying73 h (i := 1) rfl
  have h2 := rd_field Try.underlying73 h (i := 2) rfl
  obtain ⟨a, ea, _⟩ := rd_i64 Try.underlying3 h00
  obtain ⟨b, eb, _⟩ := rd_i64 Try.underlying3 h01
  obtain ⟨c, ec, _⟩ := rd_i64 Try.underlying3 h02
  obtain ⟨d, ed, _⟩ := rd_i64 Try.underlying3 h1
  obtain ⟨e, ee, _⟩ := rd_i64 Try.underlying3 h2
  obtain ⟨c0, c1, c2, c3, c4, rfl⟩ := list5 _ hl
  have e0 : [c0] = [I64 a] := ea
  have e1 : [c1] = [I64 b] := eb
  have e2 : [c2] = [I64 c] := ec
  have e3 : [c3] = [I64 d] := ed
  have e4 : [c4] = [I64 e] := ee
  cases e0; cases e1; cases e2; cases e3; cases e4
  exact ⟨⟨a, b, c, d, e⟩, rfl⟩
theorem rd_dl {H : Type} {enc : TypeId × Value → H} {W : World} (cs : List Value) (h : Rd enc Try.prog W 75 cs) : ∃ x : Dl, cs = x.cells := by
  have hl : cs.length = 14 := (rd_len Try.underlying75 h).trans (by kernel_rfl)
  have h0 := rd_field Try.underlying75 h (i := 0) rfl
  have h1 := rd_field Try.underlying75 h (i := 1) rfl
  have h2 := rd_field Try.underlying75 h (i := 2) rfl
  have h3 := rd_field Try.underlying75 h (i := 3) rfl
  have h4 := rd_field Try.underlying75 h (i := 4) rfl
  have h5 := rd_field Try.underlying75 h (i := 5) rfl
  obtain ⟨a, ea, _⟩ := rd_i64 Try.underlying3 h0
  obtain ⟨b, eb, _⟩ := rd_i64 Try.underlying3 h1
  obtain ⟨c, ec, _⟩ := rd_i64 Try.underlying3 h2
  obtain ⟨d, ed, _⟩ := rd_i64 Try.underlying3 h3
  obtain ⟨t, et⟩ := rd_ptr _ h4
  obtain ⟨o, eo⟩ := rd_ptr _ h5
  obtain ⟨c0, c1, c2, c3, c4, c5, c6, c7, c8, c9, c10, c11, c12, c13, rfl⟩ := list14 _ hl
  have e0 : [c0] = [I64 a] := ea
  have e1 : [c1] = [I64 b] := eb
  have e2 : [c2] = [I64 c] := ec
  have e3 : [c3] = [I64 d] := ed
  have e4 : [c4, c5, c6, c7, c8] = t.cells := et
  have e5 : [c9, c10, c11, c12, c13] = o.cells := eo
  cases e0; cases e1; cases e2; cases e3; cases e4; cases e5
  exact ⟨⟨a, b, c, d, t, o⟩, rfl⟩
theorem rd_dlr {H : Type} {enc : TypeId × Value → H} {W : World} (cs : List Value) (h : Rd enc Try.prog W 75 cs) : ∃ x, DlR (atStart W) cs x := rd_dl cs h
theorem rd_str {H : Type} {enc : TypeId × Value → H} {P : Program} {W : World} {t : TypeId} {cs : List Value} (ht : P.underlying t = some .string) (h : Rd enc P W t cs) : ∃ xs, cs = [St xs] := by
  obtain ⟨m, y, h⟩ := h
  obtain ⟨s, h1, _⟩ := DataW.trod_string ht h
  exact ⟨s.data.toList, by rw [h1]⟩
theorem list4 {α : Type} : ∀ (cs : List α), cs.length = 4 → ∃ a b c d, cs = [a, b, c, d]
  | [a, b, c, d], _ => ⟨a, b, c, d, rfl⟩
theorem list3 {α : Type} : ∀ (cs : List α), cs.length = 3 → ∃ a b c, cs = [a, b, c]
  | [a, b, c], _ => ⟨a, b, c, rfl⟩
theorem list8 {α : Type} : ∀ (cs : List α), cs.length = 8 → ∃ a b c d e f g h, cs = [a, b, c, d, e, f, g, h]
  | [a, b, c, d, e, f, g, h], _ => ⟨a, b, c, d, e, f, g, h, rfl⟩
theorem rd_sz {H : Type} {enc : TypeId × Value → H} {W : World} (cs : List Value) (h : Rd enc Try.prog W 85 cs) : ∃ x, SzR (atStart W) cs x := by
  have hl : cs.length = 4 := (rd_len Try.underlying85 h).trans (by kernel_rfl)
  have h0 := rd_field Try.underlying85 h (i := 0) rfl
  have h00 := rd_field Try.underlying71 h0 (i := 0) rfl
  have h01 := rd_field Try.underlying71 h0 (i := 1) rfl
  have h02 := rd_field Try.underlying71 h0 (i := 2) rfl
  have h1 := rd_field Try.underlying85 h (i := 1) rfl
  obtain ⟨a, ea, _⟩ := rd_i64 Try.underlying3 h00
  obtain ⟨b, eb, _⟩ := rd_i64 Try.underlying3 h01
  obtain ⟨c, ec, _⟩ := rd_i64 Try.underlying3 h02
  obtain ⟨d, ed, _⟩ := rd_i64 Try.underlying3 h1
  obtain ⟨c0, c1, c2, c3, rfl⟩ := list4 _ hl
  have e0 : [c0] = [I64 a] := ea
  have e1 : [c1] = [I64 b] := eb
  have e2 : [c2] = [I64 c] := ec
  have e3 : [c3] = [I64 d] := ed
  cases e0; cases e1; cases e2; cases e3
  exact ⟨⟨a, b, c, d⟩, rfl⟩
theorem rd_rq {H : Type} {enc : TypeId × Value → H} {W : World} (cs : List Value) (h : Rd enc Try.prog W 27 cs) : ∃ (q : Nq) (vs vd : Value), cs = q.cells vs vd ∧ RecV 4 SzR (atStart W) vs q.ss ∧ RecV 14 DlR (atStart W) vd q.ds := by
  have hl : cs.length = 14 := (rd_len Try.underlying27 h).trans (by kernel_rfl)
  have h0 := rd_field Try.underlying27 h (i := 0) rfl
  have h00 := rd_field Try.underlying23 h0 (i := 0) rfl
  have h01 := rd_field Try.underlying23 h0 (i := 1) rfl
  have h02 := rd_field Try.underlying23 h0 (i := 2) rfl
  obtain ⟨x0, y0, _⟩ := rd_i64 Try.underlying3 h00
  obtain ⟨x1, y1, _⟩ := rd_i64 Try.underlying3 h01
  obtain ⟨x2, y2, _⟩ := rd_i64 Try.underlying3 h02
  obtain ⟨x3, y3, _⟩ := rd_i64 Try.underlying3 (rd_field Try.underlying27 h (i := 1) rfl)
  obtain ⟨x4, y4⟩ := rd_str Try.underlying9 (rd_field Try.underlying27 h (i := 2) rfl)
  obtain ⟨x5, y5⟩ := rd_str Try.underlying9 (rd_field Try.underlying27 h (i := 3) rfl)
  obtain ⟨x6, y6⟩ := rd_bool Try.underlying4 (rd_field Try.underlying27 h (i := 4) rfl)
  obtain ⟨x7, y7⟩ := rd_bool Try.underlying4 (rd_field Try.underlying27 h (i := 5) rfl)
  obtain ⟨x8, y8⟩ := rd_bool Try.underlying4 (rd_field Try.underlying27 h (i := 6) rfl)
  obtain ⟨x9, y9, _⟩ := rd_i64 Try.underlying3 (rd_field Try.underlying27 h (i := 7) rfl)
  obtain ⟨x10, y10, _⟩ := rd_i64 Try.underlying3 (rd_field Try.underlying27 h (i := 8) rfl)
  obtain ⟨x11, y11, _⟩ := rd_i64 Try.underlying3 (rd_field Try.underlying27 h (i := 9) rfl)
  obtain ⟨vs, ss, y12, hss⟩ := rd_recs (s := 4) (R := SzR) Try.underlying24 (by kernel_rfl) (by decide) rd_sz (rd_field Try.underlying27 h (i := 10) rfl)
  obtain ⟨vd, dl, y13, hds⟩ := rd_recs (s := 14) (R := DlR) Try.underlying25 (by kernel_rfl) (by decide) rd_dlr (rd_field Try.underlying27 h (i := 11) rfl)
  obtain ⟨c0, c1, c2, c3, c4, c5, c6, c7, c8, c9, c10, c11, c12, c13, rfl⟩ := list14 _ hl
  have e0 : [c0] = [I64 x0] := y0
  have e1 : [c1] = [I64 x1] := y1
  have e2 : [c2] = [I64 x2] := y2
  have e3 : [c3] = [I64 x3] := y3
  have e4 : [c4] = [St x4] := y4
  have e5 : [c5] = [St x5] := y5
  have e6 : [c6] = [.bool x6] := y6
  have e7 : [c7] = [.bool x7] := y7
  have e8 : [c8] = [.bool x8] := y8
  have e9 : [c9] = [I64 x9] := y9
  have e10 : [c10] = [I64 x10] := y10
  have e11 : [c11] = [I64 x11] := y11
  have e12 : [c12] = [vs] := y12
  have e13 : [c13] = [vd] := y13
  cases e0; cases e1; cases e2; cases e3; cases e4; cases e5; cases e6; cases e7; cases e8; cases e9; cases e10; cases e11; cases e12; cases e13
  exact ⟨⟨x0, x1, x2, x3, x4, x5, x6, x7, x8, x9, x10, x11, ss, dl⟩, _, _, rfl, hss, hds⟩
theorem arg_rq {H : Type} {enc : TypeId × Value → H} {W : World} {r : Reach} {b0 : Nat} {v : Value} {d : DataW H} {ps : List MemPlace} (hval : Value.okWide Try.prog W r b0 27 v) (hd : DataW.Trod enc Try.prog W 0 (fun _ => true) true 27 v d ps) : ∃ (q : Nq) (vs vd : Value), v = .agg (q.cells vs vd).toArray ∧ RecV 4 SzR (atStart W) vs q.ss ∧ RecV 14 DlR (atStart W) vd q.ds := by
  obtain ⟨q, vs, vd, hx, h1, h2⟩ := rd_rq _ (arg_rd hd)
  obtain ⟨cells, rfl, _⟩ := okWide_struct Try.underlying27 hval
  refine ⟨q, vs, vd, ?_, h1, h2⟩
  have h3 : cells.toList = q.cells vs vd := hx
  have h4 : cells = (q.cells vs vd).toArray := by
    apply Array.ext'; simpa using h3
  rw [h4]
theorem rd_ey {H : Type} {enc : TypeId × Value → H} {W : World} (cs : List Value) (h : Rd enc Try.prog W 58 cs) : ∃ x, EyC (atStart W) cs x := by
  have hl : cs.length = 3 := (rd_len Try.underlying58 h).trans (by kernel_rfl)
  obtain ⟨a, ea⟩ := rd_str Try.underlying9 (rd_field Try.underlying58 h (i := 0) rfl)
  obtain ⟨b, eb, _⟩ := rd_i64 Try.underlying3 (rd_field Try.underlying58 h (i := 1) rfl)
  obtain ⟨c, ec⟩ := rd_bool Try.underlying4 (rd_field Try.underlying58 h (i := 2) rfl)
  obtain ⟨c0, c1, c2, rfl⟩ := list3 _ hl
  have e0 : [c0] = [St a] := ea
  have e1 : [c1] = [I64 b] := eb
  have e2 : [c2] = [.bool c] := ec
  cases e0; cases e1; cases e2
  exact ⟨⟨a, b, c⟩, rfl⟩
theorem rd_rp {H : Type} {enc : TypeId × Value → H} {W : World} (cs : List Value) (h : Rd enc Try.prog W 56 cs) : ∃ (q : Np) (ve vm : Value), cs = q.cells ve vm ∧ RecV 3 EyC (atStart W) ve q.es ∧ EB (atStart W) vm q.m := by
  have hl : cs.length = 8 := (rd_len Try.underlying56 h).trans (by kernel_rfl)
  obtain ⟨x0, y0, _⟩ := rd_i64 Try.underlying3 (rd_field Try.underlying56 h (i := 0) rfl)
  obtain ⟨x1, y1, _⟩ := rd_i64 Try.underlying3 (rd_field Try.underlying56 h (i := 1) rfl)
  obtain ⟨x2, y2, _⟩ := rd_i64 Try.underlying3 (rd_field Try.underlying56 h (i := 2) rfl)
  obtain ⟨x3, y3, _⟩ := rd_i64 Try.underlying3 (rd_field Try.underlying56 h (i := 3) rfl)
  obtain ⟨x4, y4, _⟩ := rd_i64 Try.underlying3 (rd_field Try.underlying56 h (i := 4) rfl)
  obtain ⟨x5, y5⟩ := rd_bool Try.underlying4 (rd_field Try.underlying56 h (i := 5) rfl)
  obtain ⟨ve, es, y6, hes⟩ := rd_recs (s := 3) (R := EyC) Try.underlying50 (by kernel_rfl) (by decide) rd_ey (rd_field Try.underlying56 h (i := 6) rfl)
  obtain ⟨vm, m, y7, hm⟩ := rd_bytes Try.underlying28 Try.underlying5 (by kernel_rfl) (rd_field Try.underlying56 h (i := 7) rfl)
  obtain ⟨c0, c1, c2, c3, c4, c5, c6, c7, rfl⟩ := list8 _ hl
  have e0 : [c0] = [I64 x0] := y0
  have e1 : [c1] = [I64 x1] := y1
  have e2 : [c2] = [I64 x2] := y2
  have e3 : [c3] = [I64 x3] := y3
  have e4 : [c4] = [I64 x4] := y4
  have e5 : [c5] = [.bool x5] := y5
  have e6 : [c6] = [ve] := y6
  have e7 : [c7] = [vm] := y7
  cases e0; cases e1; cases e2; cases e3; cases e4; cases e5; cases e6; cases e7
  exact ⟨⟨x0, x1, x2, x3, x4, x5, es, m⟩, _, _, rfl, hes, hm⟩
theorem arg_rp {H : Type} {enc : TypeId × Value → H} {W : World} {r : Reach} {b0 : Nat} {v : Value} {d : DataW H} {ps : List MemPlace} (hval : Value.okWide Try.prog W r b0 56 v) (hd : DataW.Trod enc Try.prog W 0 (fun _ => true) true 56 v d ps) : ∃ (q : Np) (ve vm : Value), v = .agg (q.cells ve vm).toArray ∧ RecV 3 EyC (atStart W) ve q.es ∧ EB (atStart W) vm q.m := by
  obtain ⟨q, ve, vm, hx, h1, h2⟩ := rd_rp _ (arg_rd hd)
  obtain ⟨cells, rfl, _⟩ := okWide_struct Try.underlying56 hval
  refine ⟨q, ve, vm, ?_, h1, h2⟩
  have h3 : cells.toList = q.cells ve vm := hx
  have h4 : cells = (q.cells ve vm).toArray := by
    apply Array.ext'; simpa using h3
  rw [h4]
end

section
set_option linter.unusedVariables false
open Go Go.ChangeShapes Go.WideShapes Go.ChangeAt Go.RowKit
theorem law_of {P : Program} {f : Nat} {args : Array Value} {W : World} (h : Calls P f args W fun e w' => ∃ G', e = .returned (.bool true) ∧ Im.le (atStart W) G' ∧ Sat W w' G' []) :
    Calls P f args W fun e w' => e = .returned (.bool true) ∧ Go.RowKit.Below W.heap.size W w' :=
  h.mono fun e w' ⟨G', he, hG, hs⟩ => ⟨he, hs.below hG⟩
end
end Go.Proofs.Ytobhlbhklblncaa
