/- How a law's row is closed: a call that answers true and changes nothing of what was there. · The laws' own small functions: toRat and eqRat; and how an argument that is a fraction is opened. · How an argument that is a whole number is opened. · What a law of two fractions needs: the two boxes, the cut behind a drawn statement that makes a fraction's variable, and how it is closed. -/
import Derived.Test.YtkeajfgcjmhmiaaFrac
import Derived.ProofKit
import Derived.OpenShut
import Derived.Lib.SmallJoins
import Derived.Deep.RegionHeld3
import Derived.Deep.DeepCutAuto
import Derived.Deep.DrawnRows
namespace Go.Proofs.Ytkeajfgcjmhmiaa
open Go.ChangeShapes Go.WideShapes Go.ChangeAt Go.RowKit Go.Joins

theorem Try.own : ownKnob Try.prog.godebug = none := by kernel_rfl
theorem Try.laidOut : laidOutB Try.prog = true := by kernel_rfl
theorem Try.cellsI : Try.prog.cellsOf 3 = 1 := by kernel_rfl
section
variable {H : Type} {enc : TypeId × Value → H} {P : Program}

/-- Arguments read behind a call as they read before it, where nothing that was there has turned. -/
theorem trodAll_below (hl : laidOutB P = true) {W W' : World} (hb : Below W.heap.size W W') {sp : Nat → Bool} :
    ∀ (ts : List TypeId) (vs : List Value) (ds : List (DataW H)) (ps : List MemPlace), (ts.all fun t => P.readableRec t && decide (t < P.types.size)) = true →
      DataW.TrodAll enc P W 0 (fun _ => true) true ts vs ds ps → (∀ p ∈ ps, p.block < W.heap.size) → (∀ p ∈ ps, sp p.block = true) → DataW.TrodAll enc P W' 0 sp true ts vs ds ps
  | [], [], [], _, _, h, _, _ => h
  | t :: ts, v :: vs, d :: ds, ps, hr, h, hlt, hs => by
    obtain ⟨p, q, h1, h2, rfl⟩ := h
    simp only [List.all_cons, Bool.and_eq_true, decide_eq_true_eq] at hr
    have l1 : ∀ x ∈ p, x.block < W.heap.size := fun x hx => hlt x (List.mem_append.2 (.inl hx))
    have l2 : ∀ x ∈ q, x.block < W.heap.size := fun x hx => hlt x (List.mem_append.2 (.inr hx))
    exact ⟨p, q, WideElems.Trod_stays hl hr.1.1 hr.1.2 h1 (fun x hx => hb.same (l1 x hx)) (fun x hx => hs x (List.mem_append.2 (.inl hx))), trodAll_below hl hb ts vs ds q hr.2 h2 l2 (fun x hx => hs x (List.mem_append.2 (.inr hx))), rfl⟩
  | [], _ :: _, _, _, _, h, _, _ => h.elim
  | [], [], _ :: _, _, _, h, _, _ => h.elim
  | _ :: _, [], _, _, _, h, _, _ => h.elim
  | _ :: _, _ :: _, [], _, _, h, _, _ => h.elim

theorem law_close {f : Func} {s : ChangeSpec} {apart fresh handsOn again : Bool} {W W' : World} {args : Array Value} {ds gs : List (DataW H)} {before : List MemPlace} {tb : TypeId}
    (hl : laidOutB P = true) (hr : (f.params.toList.all fun t => P.readableRec t && decide (t < P.types.size)) = true) (hty : f.resultTypes = #[tb]) (hbool : P.underlying tb = some .bool)
    (hvars : s.vars = []) (hW : DataW.Whole enc P f.params.toList s.vars apart W args.toList ds gs before)
    (hfn : gs = [] → s.fn H ds = { results := [.lit (.bool true)], args := ds }) (hb : Below W.heap.size W W') :
    s.post enc P f apart fresh handsOn again W args (.bool true) W' := by
  have hlt : ∀ p ∈ before, p.block < W.heap.size := fun p hp => hW.lt p hp
  have hW0 := hW
  obtain ⟨p, q, hA, hV, rfl, hz, hn⟩ := hW
  rw [hvars] at hV
  obtain ⟨rfl, rfl⟩ := trodVars_none hV
  have hf := hfn rfl
  have hA' : ∀ sp : Nat → Bool, (∀ x ∈ p, sp x.block = true) → DataW.TrodAll enc P W' 0 sp true f.params.toList args.toList (s.fn H (ds ++ [])).args p := fun sp hs => by
    rw [List.append_nil, hf]
    exact trodAll_below hl hb _ _ _ _ hr hA (fun x hx => hlt x (List.mem_append.2 (.inl hx))) hs
  have hR : ∀ (b : Nat) (sp : Nat → Bool) (hd : Bool), DataW.TrodAll enc P W' b sp hd f.resultTypes.toList ((Value.bool true).resultList f.resultTypes.size) (s.fn H (ds ++ [])).results [] := fun b sp hd => by
    rw [List.append_nil, hf, hty]
    exact trodAll_mk1 (shut_bool hbool true)
  have hvv : ∀ sp : Nat → Bool, DataW.TrodVars enc P W' sp s.vars (s.fn H (ds ++ [])).vars [] := fun sp => by
    rw [List.append_nil, hf, hvars]; rfl
  have hold : ∀ x ∈ p, (fun b => decide (b < W.heap.size)) x.block = true := fun x hx => by simpa using hlt x (List.mem_append.2 (.inl hx))
  refine ⟨ds, [], p ++ [], [], p, [], hW0, hR _ _ _, hA' _ hold, hvv _, World.keptBut_mono (fun x hx => ⟨hx, ?_⟩) (hb.frame (· ∈ p ++ [])), fun _ => ?_⟩
  · exact Or.inr (List.mem_append.1 hx)
  · refine ⟨?_, _, _, ([] ++ p) ++ [], ⟨[] ++ p, [], trodAll_append (hA' _ (fun _ _ => rfl)) (hR _ _ _), hvv _, rfl, ?_, ?_⟩, ?_⟩
    · exact ok_one hty rfl (okWide_bool_mk hbool true)
    · intro b off hp
      have hin : MemPlace.cell b off ∈ p ++ [] := by simpa using hp
      rw [hb.frozen (hlt _ hin)]
      exact hz b off hin
    · intro ha
      have := hn ha
      simpa using this
    · intro x hx _
      simpa using hx
end

end Go.Proofs.Ytkeajfgcjmhmiaa

namespace Go.Proofs.Ytkeajfgcjmhmiaa
open Go.ChangeShapes Go.WideShapes Go.ChangeAt Go.RowKit Go.Joins

end Go.Proofs.Ytkeajfgcjmhmiaa

namespace Go.Proofs.Ytkeajfgcjmhmiaa
open Go.ChangeShapes Go.WideShapes Go.ChangeAt Go.RowKit Go.Joins

set_option maxRecDepth 100000 in
/-- An argument that is a whole number. -/
theorem open_whole {H : Type} {enc : TypeId × Value → H} {W : World} {base b0 : Nat} {sp : Nat → Bool} {hd : Bool} {v : Value} {d : DataW H} {p : List MemPlace}
    (hv : Value.okWide Try.prog W .any b0 3 v) (h : DataW.Trod enc Try.prog W base sp hd 3 v d p) :
    ∃ x : Int, v = .int .i64 x ∧ (-9223372036854775808 ≤ x ∧ x ≤ 9223372036854775807) := by
  obtain ⟨x, rfl, rfl, rfl, wx⟩ := open_int Try.underlying3 hv h
  exact ⟨x, rfl, by simpa [Lit.wf, IntKind.min, IntKind.max, IntKind.signed, IntKind.bits] using wx⟩

end Go.Proofs.Ytkeajfgcjmhmiaa

namespace Go.Proofs.Ytkeajfgcjmhmiaa
open Go.ChangeShapes Go.WideShapes Go.ChangeAt Go.RowKit Go.Joins

/-- Two fractions in their boxes, and what has been done behind them. -/
def Box2 (w : World) (n1 d1 n2 d2 : Int) (w' : World) : Prop :=
  w'.cell? ⟨w.heap.size, 0, none⟩ = some (.int .i64 n1) ∧ w'.cell? ⟨w.heap.size, 1, none⟩ = some (.int .i64 d1) ∧ w'.cell? ⟨w.heap.size + 1, 0, none⟩ = some (.int .i64 n2) ∧ w'.cell? ⟨w.heap.size + 1, 1, none⟩ = some (.int .i64 d2)

theorem Box2.keep {w : World} {n1 d1 n2 d2 : Int} {X w1 : World} (k : Box2 w n1 d1 n2 d2 X) (hb : Below X.heap.size X w1) : Box2 w n1 d1 n2 d2 w1 :=
  ⟨cellB hb k.1, cellB hb k.2.1, cellB hb k.2.2.1, cellB hb k.2.2.2⟩
theorem Box2.start (w : World) (n1 d1 n2 d2 : Int) (t : TypeId) : Box2 w n1 d1 n2 d2 ((w.alloc (.cells #[.int .i64 n1, .int .i64 d1] t)).alloc (.cells #[.int .i64 n2, .int .i64 d2] t)) := by
  refine ⟨?_, ?_, ?_, ?_⟩ <;> simp [go_sem]
theorem Box2.lt {w : World} {n1 d1 n2 d2 : Int} {X : World} (k : Box2 w n1 d1 n2 d2 X) : w.heap.size + 1 < X.heap.size := lt_of_cell k.2.2.1
theorem Box2.alloc {w : World} {n1 d1 n2 d2 : Int} {X : World} (k : Box2 w n1 d1 n2 d2 X) (o : Obj) : Box2 w n1 d1 n2 d2 (X.alloc o) := k.keep ((Below.refl _ _).alloc (Nat.le_refl _) _)
theorem Box2.store {w : World} {n1 d1 n2 d2 : Int} {X : World} (k : Box2 w n1 d1 n2 d2 X) {g o : Nat} (v : Value) (hg : w.heap.size + 2 ≤ g) : Box2 w n1 d1 n2 d2 (X.setCell ⟨g, o, none⟩ v) := by
  refine ⟨?_, ?_, ?_, ?_⟩ <;> rw [World.cell?_setCell_other _ _ _ _ (by simp only [ne_eq, Addr.mk.injEq]; omega)]
  · exact k.1
  · exact k.2.1
  · exact k.2.2.1
  · exact k.2.2.2

/-- A block of two cells that was made just ahead of a call, or of the whole statement. -/
def Two (X : World) (g : Nat) : Prop := Slot X g 0 (.int .i64 0) ∧ Slot X g 1 (.int .i64 0)
theorem twoB {X w1 : World} {g : Nat} (hb : Below X.heap.size X w1) (h : Two X g) : Two w1 g := ⟨slotB hb h.1, slotB hb h.2⟩
theorem twoNew {X w1 : World} (ty : TypeId) (hb : Below (X.alloc (.cells #[.int .i64 0, .int .i64 0] ty)).heap.size (X.alloc (.cells #[.int .i64 0, .int .i64 0] ty)) w1) : Two w1 X.heap.size :=
  twoB hb ⟨(slotNew _ _ _ _).1, (slotNew _ _ _ _).2⟩
theorem twoNewD {X w1 : World} (ty : TypeId) (hb : Below (X.alloc (.cells #[.int .i64 0, .int .i64 0] ty)).drew.heap.size (X.alloc (.cells #[.int .i64 0, .int .i64 0] ty)).drew w1) : Two w1 X.heap.size :=
  twoB (X := (X.alloc (.cells #[.int .i64 0, .int .i64 0] ty)).drew) hb ⟨(slotNew X _ _ _).1, (slotNew X _ _ _).2⟩
theorem twoNew2 {X w1 : World} {o1 o2 : Obj} (ty : TypeId) (hb : Below (((X.alloc o1).alloc o2).alloc (.cells #[.int .i64 0, .int .i64 0] ty)).drew.heap.size (((X.alloc o1).alloc o2).alloc (.cells #[.int .i64 0, .int .i64 0] ty)).drew w1) : Two w1 (X.heap.size + 2) := by
  have h := twoNewD ty hb
  simpa using h

/-- A variable that holds a fraction. -/
def HoldsQ (wx : World) (s : Value) (lo : Nat) (a b : Int) : Prop := ∃ g, s = .pointer (some ⟨g, 0, none⟩) ∧ lo ≤ g ∧ Slot wx g 0 (.int .i64 a) ∧ Slot wx g 1 (.int .i64 b)

def Cut1 (w : World) (n1 d1 n2 d2 a b : Int) (t : Bool) (s5 s6 : Value) (wx : World) : Prop :=
  HoldsQ wx s5 (w.heap.size + 2) a b ∧ s6 = .bool t ∧ Box2 w n1 d1 n2 d2 wx ∧ Below w.heap.size w wx

theorem Cut1.stored {w : World} {n1 d1 n2 d2 a b : Int} {t : Bool} {X : World} {g : Nat} {u v : Value} (s0 : Slot X g 0 u) (s1 : Slot X g 1 v) (hg : w.heap.size + 2 ≤ g) (k : Box2 w n1 d1 n2 d2 X) (hB : Below w.heap.size w X) :
    Cut1 w n1 d1 n2 d2 a b t (.pointer (some ⟨g, 0, none⟩)) (.bool t) ((X.setCell ⟨g, 0, none⟩ (.int .i64 a)).setCell ⟨g, 1, none⟩ (.int .i64 b)) :=
  ⟨⟨g, rfl, hg, slotS (slotN s0) (by simp), slotN (slotS s1 (by simp))⟩, rfl, (k.store _ hg).store _ hg, (hB.setCell (by show _ ≤ g; omega) _).setCell (by show _ ≤ g; omega) _⟩
theorem Cut1.made {w : World} {n1 d1 n2 d2 a b : Int} {t : Bool} {X : World} {ty : TypeId} (k : Box2 w n1 d1 n2 d2 X) (hB : Below w.heap.size w X) :
    Cut1 w n1 d1 n2 d2 a b t (.pointer (some ⟨X.heap.size, 0, none⟩)) (.bool t) (X.alloc (.cells #[.int .i64 a, .int .i64 b] ty)) :=
  ⟨⟨X.heap.size, rfl, by have := k.lt; omega, (slotNew _ _ _ _).1, (slotNew _ _ _ _).2⟩, rfl, k.alloc _, hB.alloc hB.size _⟩

/-- .. with the reference's result beside them. -/
def Box2G (w : World) (n1 d1 n2 d2 : Int) (g : Nat) (a b : Int) (w' : World) : Prop := Box2 w n1 d1 n2 d2 w' ∧ Slot w' g 0 (.int .i64 a) ∧ Slot w' g 1 (.int .i64 b)
section
variable {w : World} {n1 d1 n2 d2 : Int} {g : Nat} {a b : Int} {X w1 : World}
theorem Box2G.keep (k : Box2G w n1 d1 n2 d2 g a b X) (hb : Below X.heap.size X w1) : Box2G w n1 d1 n2 d2 g a b w1 := ⟨k.1.keep hb, slotB hb k.2.1, slotB hb k.2.2⟩
theorem Box2G.keepD (k : Box2G w n1 d1 n2 d2 g a b X) (hb : Below X.drew.heap.size X.drew w1) : Box2G w n1 d1 n2 d2 g a b w1 := Box2G.keep (X := X.drew) k hb
theorem Box2G.alloc (k : Box2G w n1 d1 n2 d2 g a b X) (o : Obj) : Box2G w n1 d1 n2 d2 g a b (X.alloc o) := k.keep ((Below.refl _ _).alloc (Nat.le_refl _) _)
theorem Box2G.lt (k : Box2G w n1 d1 n2 d2 g a b X) : w.heap.size + 1 < X.heap.size ∧ g < X.heap.size := ⟨k.1.lt, lt_of_cell k.2.1.1⟩
def Cut2 (w : World) (g : Nat) (a b : Int) (t : Bool) (s7 s8 : Value) (wx : World) : Prop :=
  (∃ g', s7 = .pointer (some ⟨g', 0, none⟩) ∧ g < g' ∧ Slot wx g' 0 (.int .i64 a) ∧ Slot wx g' 1 (.int .i64 b)) ∧ s8 = .bool t ∧ Slot wx g 0 (.int .i64 a) ∧ Slot wx g 1 (.int .i64 b) ∧ Below w.heap.size w wx
theorem Cut2.stored {t : Bool} {g' : Nat} {u v : Value} (s0 : Slot X g' 0 u) (s1 : Slot X g' 1 v) (hg : w.heap.size + 2 ≤ g') (hgg : g < g') (k : Box2G w n1 d1 n2 d2 g a b X) (hB : Below w.heap.size w X) :
    Cut2 w g a b t (.pointer (some ⟨g', 0, none⟩)) (.bool t) ((X.setCell ⟨g', 0, none⟩ (.int .i64 a)).setCell ⟨g', 1, none⟩ (.int .i64 b)) :=
  ⟨⟨g', rfl, hgg, slotS (slotN s0) (by simp), slotN (slotS s1 (by simp))⟩, rfl, slotS (slotS k.2.1 (by intro e; cases e; omega)) (by intro e; cases e), slotS (slotS k.2.2 (by intro e; cases e)) (by intro e; cases e; omega), (hB.setCell (by show _ ≤ g'; omega) _).setCell (by show _ ≤ g'; omega) _⟩
theorem Cut2.made {t : Bool} {ty : TypeId} (k : Box2G w n1 d1 n2 d2 g a b X) (hB : Below w.heap.size w X) :
    Cut2 w g a b t (.pointer (some ⟨X.heap.size, 0, none⟩)) (.bool t) (X.alloc (.cells #[.int .i64 a, .int .i64 b] ty)) :=
  ⟨⟨X.heap.size, rfl, k.lt.2, (slotNew _ _ _ _).1, (slotNew _ _ _ _).2⟩, rfl, slotA _ k.2.1, slotA _ k.2.2, hB.alloc hB.size _⟩
end

end Go.Proofs.Ytkeajfgcjmhmiaa
