/- The reference's values of two maps at all points of both. · The reference's values of two maps at all points of both. -/
import Derived.Test.YtkeajfgcjmhmiaaGreatJ11
import Derived.Test.YtkeajfgcjmhmiaaGreatJ16
import Derived.Test.YtkeajfgcjmhmiaaGreatJ19
import Derived.Test.YtkeajfgcjmhmiaaGreatJ10
import Derived.Deep.DeepAppendRoom
namespace Go.Proofs.YtkeajfgcjmhmiaaGreat
open Go.RowKit

set_option maxRecDepth 100000 in
/-- One fraction more: the row lies where it lay, or in a block that is new. -/
theorem append_q1f {ops : Array Oper} {rest : List Oper} {o : Oper} {a : Act} {K : Exit → Act → World → Prop} (w : World) (hgd : o.guard = none) (s x : Operand)
    (ho : o.op = .call { callee := .builtin .append, args := #[s, x], argTypes := #[43, 43] })
    (base : Nat) (v : Value) (qs : List Q) (hs : a.eval s = v) (hown : OwQ base 31 w v qs)
    (g c : Nat) (n d : Int) (hx : a.eval x = .slice (some ⟨g, 0, none⟩) 1 c) (c0 : w.cell? ⟨g, 0, none⟩ = some (.int .i64 n)) (c1 : w.cell? ⟨g, 1, none⟩ = some (.int .i64 d))
    (hlen : qs.length ≤ 900000) (hbase : base ≤ w.heap.size)
    (h : ∀ v' w', OwQ base 31 w' v' (qs ++ [(n, d)]) → w.grownBy w' v.ownBlock → (∀ b, v'.ownBlock = some b → v.ownBlock = some b ∨ w.heap.size ≤ b) → wpList Tryz.prog ops K rest (a.put o.dst v') w') : wpList Tryz.prog ops K (o :: rest) a w := by
  obtain ⟨i, hi, hz, hsz, hb⟩ := info_parts Tryz.infoQ
  have hcell : ∀ j u, (rowQ [(n, d)])[j]? = some u → w.cell? ((⟨g, 0, none⟩ : Addr).add j) = some u := by
    intro j u hj
    have hadd : (⟨g, 0, none⟩ : Addr).add j = ⟨g, j, none⟩ := by unfold Addr.add; split <;> simp_all
    rw [hadd]
    match j, hj with
    | 0, hj => simp [rowQ] at hj; subst hj; exact c0
    | 1, hj => simp [rowQ] at hj; subst hj; exact c1
    | j + 2, hj => simp [rowQ] at hj
  have hone : ∀ u ∈ rowQ [(n, d)], u.oneCell' = true := by
    intro u hu
    simp [rowQ] at hu
    rcases hu with rfl | rfl <;> rfl
  have hfresh : ∀ v' w', (Builtin.append_ #[43, 43] o.type #[v, .slice (some ⟨g, 0, none⟩) 1 c]).run Tryz.prog w = .ok v' w' → ∀ b, v'.ownBlock = some b → v.ownBlock = some b ∨ w.heap.size ≤ b := by
    intro v' w' hr b hvb
    rcases hown.2 with ⟨rfl, hn⟩ | ⟨k, cap, cur, rfl, hbk, hk, hnc, hcm, hcs, htake⟩
    · have hr2 := _root_.Go.run_append_nil (P := Tryz.prog) w 43 o.type 31 i _ Tryz.underlying43 hi hz ⟨g, 0, none⟩ 1 c (rowQ [(n, d)]) (by rw [hsz]; rfl) hcell (by omega) (by omega) (by rw [hb]; omega)
      rw [hr2] at hr
      simp only [Result.ok.injEq] at hr
      rw [← hr.1] at hvb
      simp only [Value.ownBlock, Option.some.injEq] at hvb
      exact Or.inr (by omega)
    · by_cases hroom : qs.length + 1 ≤ cap
      · obtain ⟨w2, hr2, -, -⟩ := run_append_own_spare (P := Tryz.prog) w base 43 o.type 31 i 2 Tryz.underlying43 hi hsz k qs.length cap (rowQ qs) hown ⟨g, 0, none⟩ 1 c (rowQ [(n, d)]) rfl hcell hone hroom
        rw [hr2] at hr
        simp only [Result.ok.injEq] at hr
        rw [← hr.1] at hvb
        exact Or.inl hvb
      · have holds : ∀ j u, (rowQ qs)[j]? = some u → w.cell? ((⟨k, 0, none⟩ : Addr).add j) = some u := World.ownsRow.cells hown (g := k) rfl
        have hr2 := run_append_grow (P := Tryz.prog) w 43 o.type 31 i _ Tryz.underlying43 hi hz ⟨k, 0, none⟩ qs.length cap (rowQ qs) (by rw [hsz]; exact hown.1) holds ⟨g, 0, none⟩ 1 c (rowQ [(n, d)]) (by rw [hsz]; rfl) hcell (by omega) (by omega) (growslice_fits (by omega) (by rw [hb]; omega))
        rw [hr2] at hr
        simp only [Result.ok.injEq] at hr
        rw [← hr.1] at hvb
        simp only [Value.ownBlock, Option.some.injEq] at hvb
        exact Or.inr (by omega)
  obtain ⟨v', w', hr, h2, h3, -⟩ := run_append_own (P := Tryz.prog) w base 43 o.type 31 i _ 2 16 Tryz.underlying43 hi hz hsz hb rfl (by decide) v qs.length (rowQ qs) hown ⟨g, 0, none⟩ 1 c (rowQ [(n, d)]) rfl hcell hone (by unfold maxLen; omega) (by omega) hbase
  refine wpList_plain hgd fun _ hK => ?_
  unfold Oper.wp execOp
  simp only [ho, resolve, invoke, builtin, Sem.run_bind, Sem.run_pure, Result.andThen_ok, List.map_toArray, List.map_cons, List.map_nil, hs, hx, hr]
  refine hK _ _ (h v' w' ?_ h3 (hfresh v' w' hr))
  unfold OwQ; rw [List.length_append, rowQ_app]; exact h2

theorem upQ_xs {ps : List Pt} (h : okMap ps = true) : UpQ (ps.map (·.1)) := by
  unfold UpQ
  rw [List.pairwise_map, List.pairwise_iff_getElem]
  have step : ∀ (n i : Nat) (hj : i + n + 1 < ps.length), toR (ps[i]'(by omega)).1 < toR (ps[i + n + 1]).1 := by
    intro n
    induction n with
    | zero =>
      intro i hj
      have h1 := List.getElem?_eq_getElem (show i < ps.length by omega)
      have h2 := List.getElem?_eq_getElem (show i + 1 < ps.length by omega)
      have hl := okMap_rising h h1 h2
      have k1 := okQ_bd (unitQ_ok (coordQ_unit (okMap_coord h h1).1))
      have k2 := okQ_bd (unitQ_ok (coordQ_unit (okMap_coord h h2).1))
      exact (lessQ_iff k1.1 k2.1).1 hl
    | succ n ih =>
      intro i hj
      have h1 := ih i (by omega)
      have h3 := List.getElem?_eq_getElem (show i + n + 1 < ps.length by omega)
      have h4 := List.getElem?_eq_getElem (show i + n + 1 + 1 < ps.length by omega)
      have hl := okMap_rising h h3 h4
      have k1 := okQ_bd (unitQ_ok (coordQ_unit (okMap_coord h h3).1))
      have k2 := okQ_bd (unitQ_ok (coordQ_unit (okMap_coord h h4).1))
      have h2 := (lessQ_iff k1.1 k2.1).1 hl
      exact Std.lt_trans h1 h2
  intro i j hi hj hij
  obtain ⟨n, rfl⟩ : ∃ n, j = i + n + 1 := ⟨j - i - 1, by omega⟩
  exact step n i hj
/-- The points of both, as the reference has them. -/
def bothTo (f g : List Pt) (k : Nat) : List Q := ((g.map (·.1)).take k).foldl (fun l x => insQ x l) (f.map (·.1))
theorem bothTo_zero (f g : List Pt) : bothTo f g 0 = f.map (·.1) := by unfold bothTo; simp
theorem bothTo_next {f g : List Pt} {k : Nat} {p : Pt} (h : g[k]? = some p) : bothTo f g (k + 1) = insQ p.1 (bothTo f g k) := by
  unfold bothTo
  rw [take_map_snoc h, List.foldl_append]; rfl
theorem bothTo_ok {f g : List Pt} (hf : okMap f = true) (hg : okMap g = true) (k : Nat) : OkL (bothTo f g k) := fun x hx => by
  unfold bothTo at hx
  rw [foldQ_mem] at hx
  rcases hx with hx | hx
  · exact okL_xs hf x hx
  · exact okL_xs hg x (List.mem_of_mem_take hx)
theorem bothTo_len (f g : List Pt) (k : Nat) : (bothTo f g k).length ≤ f.length + g.length := by
  unfold bothTo
  have h1 := foldQ_len ((g.map (·.1)).take k) (f.map (·.1))
  rw [List.length_map, List.length_take, List.length_map] at h1
  omega
theorem bothTo_all {f g : List Pt} (hf : okMap f = true) (hg : okMap g = true) : bothTo f g g.length = bothQ f g := by
  have hu : UpQ (bothTo f g g.length) := by
    unfold bothTo
    rw [List.take_of_length_le (by simp)]
    exact foldQ_up (okL_xs hg) (okL_xs hf) (upQ_xs hf)
  refine setQ_of ((okL_xs hf).app (okL_xs hg)) hu (fun x => ?_)
  unfold bothTo
  rw [List.take_of_length_le (by simp), foldQ_mem, List.mem_append]
theorem bothQ_len (f g : List Pt) : (bothQ f g).length ≤ f.length + g.length := by
  have := setQ_len (f.map (·.1) ++ g.map (·.1))
  rw [List.length_append, List.length_map, List.length_map] at this
  exact this
theorem bothQ_unit {f g : List Pt} (hf : okMap f = true) (hg : okMap g = true) : ∀ x ∈ bothQ f g, unitQ x.1 x.2 = true := fun x hx => by
  unfold bothQ at hx
  rw [setQ_mem, List.mem_append] at hx
  rcases hx with hx | hx
  · obtain ⟨p, hp, rfl⟩ := List.mem_map.1 hx
    obtain ⟨i, hi⟩ := List.getElem?_of_mem hp
    exact coordQ_unit (okMap_coord hf hi).1
  · obtain ⟨p, hp, rfl⟩ := List.mem_map.1 hx
    obtain ⟨i, hi⟩ := List.getElem?_of_mem hp
    exact coordQ_unit (okMap_coord hg hi).1

set_option maxHeartbeats 800000 in
theorem coXs_any (ps : List Pt) (v : Value) (w : World) (hv : RdP w v ps) (hn : ps.length ≤ 800000) :
    Calls Tryz.prog 103 #[v] w (RetQ w (ps.map (·.1))) := by
  obtain ⟨A, c, rfl, hl, hm, hcell⟩ := hv
  unfold maxLen at hm
  have HC := Lib.hid hcell
  clear hcell
  go_enter Tryz.func103, Tryz.ntmps103
  go_wp2_with fail
  go_loopw [3, 8] (fun out i wr => RelX ps w out i wr) (fun _ i _ => ps.length - (intOf i).toNat)
  case atStart => exact ⟨0, Nat.zero_le _, rfl, World.ownsRow_nil _ _ _ _, Below.refl _ _⟩
  case round =>
    obtain ⟨k, hk, rfl, hown, hb⟩ := hrel
    have HO := Lib.hid hown
    clear hown
    by_cases hlt : k < ps.length
    · obtain ⟨g, o, rfl, hg, hc⟩ := HC.out (by intro h; rw [h] at hlt; simp at hlt)
      have hq := hc k ps[k] (List.getElem?_eq_getElem hlt)
      have hqk := List.getElem?_eq_getElem hlt
      generalize ps[k] = q at *
      obtain ⟨⟨a1, a2⟩, a3, a4⟩ := q
      obtain ⟨c0, c1, c2, c3⟩ := hq
      rw [← hb.cell (p := ⟨g, _, none⟩) hg] at c0 c1 c2 c3
      clear hc HC
      have HS := Lib.hid (take_map_snoc hqk)
      clear hqk
      have z := hb.size
      go_wp2_with (at_builtin; refine append_q1 _ rfl _ _ rfl w.heap.size _ ((ps.map (·.1)).take k) rfl ?own _ _ a1 a2 rfl ?c0 ?c1 ?len ?base ?_)
      case own => exact (OwQ.keep HO.out (by go_grown))
      case len => omega
      case base => go_size
      intro v' w' hown hb2
      have hB : Below w.heap.size w w' := Below.trans (by go_grown) hb2
      clear hb2 c0 c1 c2 c3
      have HO2 := Lib.hid hown
      clear hown HO
      go_wp2_with fail
      go_roundw
      case rel => exact ⟨k + 1, by omega, by go_num, by rw [HS.out]; exact HO2.out, hB⟩
      case measure => simp [intOf]; omega
    · obtain rfl : k = ps.length := by omega
      have HE := Lib.hid (show OwQ w.heap.size 31 wr u3 (ps.map (·.1)) by have := HO.out; rwa [List.take_of_length_le (by simp)] at this)
      clear HO
      go_wp2_with fail
      go_ret
      exact ⟨_, rfl, HE.out, hb⟩

def RelBo (f g : List Pt) (h : Nat) (W0 : World) (out i : Value) (wr : World) : Prop :=
  ∃ k : Nat, k ≤ g.length ∧ i = .int .i64 k ∧ OwQ h 31 wr out (bothTo f g k) ∧ Below W0.heap.size W0 wr

set_option maxHeartbeats 1600000 in
theorem coBoth_is (f g : List Pt) (vf vg : Value) (w : World) (hf : RdP w vf f) (hg : RdP w vg g) (mf : okMap f = true) (mg : okMap g = true) :
    Calls Tryz.prog 115 #[vf, vg] w (RetQ w (bothQ f g)) := by
  have HF := Lib.hid hf
  have HG := Lib.hid hg
  have l1 := okMap_len mf
  have l2 := okMap_len mg
  have HOk := Lib.hid (bothTo_ok mf mg)
  have HLe := Lib.hid (bothTo_len f g)
  have HAll := Lib.hid (bothTo_all mf mg)
  have HUg := Lib.hid (okL_xs mg)
  clear hf hg mf mg
  go_enter Tryz.func115, Tryz.ntmps115
  go_wp2_with fail
  refine (coXs_any f _ w HF.out (by omega)).mono ?_
  rintro e w1 ⟨r1, rfl, os1, hb1⟩
  have z1 := hb1.size
  go_wp2_with fail
  refine (coXs_any g _ w1 (HG.out.keep hb1) (by omega)).mono ?_
  rintro e w2 ⟨r2, rfl, os2, hb2⟩
  have z2 := hb2.size
  obtain ⟨gs, cs, rfl, hs1, hs2, hs3, hs4, hsc⟩ := os2.lit (n := g.length) (by simp) (by omega)
  unfold maxLen at hs2
  have HSC := Lib.hid hsc
  have H1 := Lib.hid (show OwQ w.heap.size 31 w2 r1 (bothTo f g 0) from by rw [bothTo_zero]; exact os1.keep hb2)
  have B2 : Below w.heap.size w w2 := Below.trans hb1 (hb2.mono z1)
  clear os1 os2 hb1 hb2 hsc
  go_wp2_with fail
  go_name_world W0 hW
  rw [hW] at H1 HSC B2 hs4
  clear hW
  go_loopw [5, 13] (fun out i wr => RelBo f g w.heap.size W0 out i wr) (fun _ i _ => g.length - (intOf i).toNat)
  case atStart => exact ⟨0, Nat.zero_le _, rfl, H1.out, Below.refl _ _⟩
  case round =>
    obtain ⟨k, hk, rfl, hown, hb⟩ := hrel
    have HO := Lib.hid hown
    have hzr : w.heap.size ≤ wr.heap.size := Nat.le_trans B2.size hb.size
    clear hown
    by_cases hlt : k < g.length
    · have hp := List.getElem?_eq_getElem hlt
      generalize g[k] = p at *
      have hpx : (g.map (·.1))[k]? = some p.1 := by rw [List.getElem?_map, hp]; rfl
      obtain ⟨c0, c1⟩ := HSC.out k _ hpx
      have HSn := Lib.hid (bothTo_next (f := f) hp)
      have hox := Lib.hid (HUg.out _ (List.mem_of_getElem? hpx))
      have hle := HLe.out k
      obtain ⟨⟨p1, p2⟩, p3, p4⟩ := p
      replace c0 := cellB hb c0
      replace c1 := cellB hb c1
      have b0 : (0 : Int) ≤ (k : Int) := by omega
      have b1 : (k : Int) < (g.length : Int) := by omega
      have v2 : IntKind.i64.wrap ((k : Int) + 1) = (k : Int) + 1 := IntWalk.i64_in _ (by omega)
      have v3 : IntKind.i64.wrap (k : Int) = (k : Int) := IntWalk.i64_in _ (by omega)
      clear hp hpx
      go_wp2_with fail
      refine (imPut_is w.heap.size (bothTo f g k) _ p1 p2 _ (HO.out.keep (by go_grown)) (HOk.out k) hox.out (by omega) (by go_size)).mono ?_
      rintro e w5 ⟨r5, rfl, ow, hb5⟩
      have hX : Below wr.heap.size wr w5 := nextX (by go_grown) hb5
      have HO5 := Lib.hid ow
      have hB5 : Below W0.heap.size W0 w5 := nextW hb hX
      clear ow hb5 hX HO c0 c1
      go_wp2_with fail
      go_roundw
      case rel => exact ⟨k + 1, by omega, by go_num, by rw [HSn.out]; exact HO5.out, hB5⟩
      case measure => simp [intOf]; omega
    · obtain rfl : k = g.length := by omega
      have HE := Lib.hid (show OwQ w.heap.size 31 wr u5 (bothQ f g) by have := HO.out; rwa [HAll.out] at this)
      have hB : Below w.heap.size w wr := Below.trans B2 (hb.mono B2.size)
      clear HO
      go_wp2_with fail
      go_ret
      exact ⟨_, rfl, HE.out, hB⟩

end Go.Proofs.YtkeajfgcjmhmiaaGreat

namespace Go.Proofs.YtkeajfgcjmhmiaaGreat
open Go.RowKit

theorem OwQ.keepG {base : Nat} {e : TypeId} {w w' : World} {row : Option Nat} {v : Value} {qs : List Q} (h : OwQ base e w v qs) (hg : w.grownBy w' row) (hn : ∀ b, row = some b → v.ownBlock ≠ some b) : OwQ base e w' v qs := by
  obtain ⟨h1, h2⟩ := h
  refine ⟨h1, ?_⟩
  rcases h2 with h2 | ⟨g, cap, cur, rfl, hb, hh, h3⟩
  · exact .inl h2
  · refine .inr ⟨g, cap, cur, rfl, hb, (hg.block g (Array.getElem?_eq_some_iff.1 hh).1 (fun e => ?_)).trans hh, h3⟩
    exact hn g e.symm rfl
def valA (f g : List Pt) : List Q := (bothQ f g).map (fun x => (valQ f x).1)
def valB (f g : List Pt) : List Q := (bothQ f g).map (fun x => (valQ g x).1)
def fineV (f g : List Pt) (x : Q) : Bool := (valQ f x).2 && (valQ g x).2
def allFine (f g : List Pt) : Bool := (bothQ f g).all (fineV f g)
def FineTo (f g : List Pt) (k : Nat) : Prop := ∀ (i : Nat) (x : Q), i < k → (bothQ f g)[i]? = some x → fineV f g x = true
theorem FineTo.all {f g : List Pt} (h : FineTo f g (bothQ f g).length) : allFine f g = true := by
  unfold allFine
  rw [List.all_eq_true]
  intro x hx
  obtain ⟨i, hi⟩ := List.getElem?_of_mem hx
  exact h i x (List.getElem?_eq_some_iff.1 hi).1 hi
theorem FineTo.next {f g : List Pt} {k : Nat} {x : Q} (h : FineTo f g k) (hx : (bothQ f g)[k]? = some x) (hf : fineV f g x = true) : FineTo f g (k + 1) := fun i y hi hy => by
  by_cases e : i = k
  · subst e; rw [hx] at hy; cases hy; exact hf
  · exact h i y (by omega) hy
theorem fine_not {f g : List Pt} {k : Nat} {x : Q} (hx : (bothQ f g)[k]? = some x) (hf : fineV f g x = false) : allFine f g = false := by
  unfold allFine
  rw [List.all_eq_false]
  exact ⟨x, List.mem_of_getElem? hx, by rw [hf]; simp⟩
/-- What coValues gives. -/
def RetQQB (w : World) (ls ms : List Q) (t : Bool) (e : Ending) (w' : World) : Prop :=
  ∃ r s, e = .returned (.tuple #[r, s, .bool t]) ∧ OwQ w.heap.size 31 w' r ls ∧ OwQ w.heap.size 31 w' s ms ∧ Below w.heap.size w w'
theorem map_take_snoc {α β : Type} (F : α → β) {l : List α} {k : Nat} {x : α} (h : l[k]? = some x) : (l.map F).take (k + 1) = (l.map F).take k ++ [F x] := by
  refine take_snoc_get ?_
  rw [List.getElem?_map, h]; rfl
theorem atQ_of {ps : List Pt} {x : Q} {a b : Int} {t : Bool} (h : valQ ps x = ((a, b), t)) : ∃ c d, atQ ps x = (c, d, t) ∧ (t = true → c = a ∧ d = b) := by
  unfold atQ
  rw [h]
  cases t
  · exact ⟨0, 0, rfl, fun h => by cases h⟩
  · exact ⟨a, b, rfl, fun _ => ⟨rfl, rfl⟩⟩
def cvQ (f g : List Pt) : List Q × List Q × Bool := if allFine f g = true then (valA f g, valB f g, true) else ([], [], false)

def RelCv (f g : List Pt) (h : Nat) (W0 : World) (a b i : Value) (wr : World) : Prop :=
  ∃ k : Nat, k ≤ (bothQ f g).length ∧ i = .int .i64 k ∧ OwQ h 31 wr a ((valA f g).take k) ∧ OwQ h 31 wr b ((valB f g).take k) ∧ Sep a b ∧ FineTo f g k ∧ Below W0.heap.size W0 wr

set_option maxRecDepth 100000 in
set_option maxHeartbeats 6400000 in
theorem coValues_is (f g : List Pt) (vf vg : Value) (ra rb : List Q) (t : Bool) (hl : cvQ f g = (ra, rb, t)) (w : World) (hf : RdP w vf f) (hg : RdP w vg g) (mf : okMap f = true) (mg : okMap g = true) :
    Calls Tryz.prog 92 #[vf, vg] w (RetQQB w ra rb t) := by
  have HL := Lib.hid hl
  clear hl
  have HF := Lib.hid hf
  have HG := Lib.hid hg
  have l1 := okMap_len mf
  have l2 := okMap_len mg
  have MF := Lib.hid mf
  have MG := Lib.hid mg
  have hbl := bothQ_len f g
  have HUn := Lib.hid (bothQ_unit mf mg)
  have hla : (valA f g).length = (bothQ f g).length := by unfold valA; simp
  have hlb : (valB f g).length = (bothQ f g).length := by unfold valB; simp
  clear hf hg mf mg
  go_enter Tryz.func92, Tryz.ntmps92
  go_wp2_with fail
  refine (coBoth_is f g _ _ w HF.out HG.out MF.out MG.out).mono ?_
  rintro e w1 ⟨r1, rfl, os1, hb1⟩
  have HR := Lib.hid os1.read
  have B1 : Below w.heap.size w w1 := hb1
  clear os1 hb1
  obtain ⟨A, cc, rfl, hl1, hm1, hcell⟩ := HR.out
  have HC := Lib.hid hcell
  clear hcell HR
  unfold maxLen at hm1
  go_wp2_with fail
  go_name_world W0 hW
  rw [hW] at HC B1
  clear hW
  go_loopw [7, 8, 19] (fun a b i wr => RelCv f g W0.heap.size W0 a b i wr) (fun _ _ i _ => (bothQ f g).length - (intOf i).toNat)
  case atStart => exact ⟨0, Nat.zero_le _, rfl, World.ownsRow_nil _ _ _ _, World.ownsRow_nil _ _ _ _, fun b h => by simp [Value.ownBlock] at h, fun i x hi => absurd hi (Nat.not_lt_zero _), Below.refl _ _⟩
  case round =>
    obtain ⟨k, hk, rfl, howa, howb, hsep, hfine, hb⟩ := hrel
    have HA := Lib.hid howa
    have HB := Lib.hid howb
    have HSep := Lib.hid hsep
    have HFi := Lib.hid hfine
    have hB : Below w.heap.size w wr := Below.trans B1 (hb.mono B1.size)
    have hzr : w.heap.size ≤ wr.heap.size := hB.size
    have hoa : ∀ b, u7.ownBlock = some b → b < wr.heap.size := fun b h => (World.ownsRow.lt HA.out b h).2
    have hob : ∀ b, u8.ownBlock = some b → b < wr.heap.size := fun b h => (World.ownsRow.lt HB.out b h).2
    have HOa := Lib.hid hoa
    have HOb := Lib.hid hob
    clear howa howb hsep hfine hoa hob
    by_cases hlt : k < (bothQ f g).length
    · have hx := List.getElem?_eq_getElem hlt
      generalize (bothQ f g)[k] = x at *
      obtain ⟨g1, o1, rfl, hg1, hc⟩ := HC.out (by intro h; rw [h] at hlt; simp at hlt)
      obtain ⟨c0, c1⟩ := hc k _ hx
      have HUx := Lib.hid (HUn.out _ (List.mem_of_getElem? hx))
      have HX := Lib.hid hx
      have HSa := Lib.hid (map_take_snoc (fun x => (valQ f x).1) hx)
      have HSb := Lib.hid (map_take_snoc (fun x => (valQ g x).1) hx)
      obtain ⟨x1, x2⟩ := x
      obtain ⟨⟨⟨y1, y2⟩, ty⟩, hy⟩ : ∃ r, valQ f (x1, x2) = r := ⟨_, rfl⟩
      obtain ⟨⟨⟨z1, z2⟩, tz⟩, hz⟩ : ∃ r, valQ g (x1, x2) = r := ⟨_, rfl⟩
      simp only [hy] at HSa
      simp only [hz] at HSb
      obtain ⟨ya, yb, hya, hyt⟩ := atQ_of hy
      obtain ⟨za, zb, hza, hzt⟩ := atQ_of hz
      have HYa := Lib.hid hya
      have HZa := Lib.hid hza
      have HYt := Lib.hid hyt
      have HZt := Lib.hid hzt
      have HFv := Lib.hid (show fineV f g (x1, x2) = (ty && tz) from by unfold fineV; rw [hy, hz])
      replace c0 := cellB hb c0
      replace c1 := cellB hb c1
      have b0 : (0 : Int) ≤ (k : Int) := by omega
      have b1 : (k : Int) < ((bothQ f g).length : Int) := by omega
      have v2 : IntKind.i64.wrap ((k : Int) + 1) = (k : Int) + 1 := IntWalk.i64_in _ (by omega)
      have v3 : IntKind.i64.wrap (k : Int) = (k : Int) := IntWalk.i64_in _ (by omega)
      have hta : ((valA f g).take k).length ≤ 24 := by rw [List.length_take]; omega
      have htb : ((valB f g).take k).length ≤ 24 := by rw [List.length_take]; omega
      clear hx hc hy hz hya hyt hza hzt
      go_wp2_with fail
      refine (imAt_is f _ x1 x2 ya yb ty _ (HF.out.keep (nextX hB (by go_grown))) MF.out HUx.out HYa.out).mono ?_
      rintro e w2 ⟨rfl, hb'⟩
      have hX : Below wr.heap.size wr w2 := nextX (by go_grown) hb'
      have hX2 := hX
      replace HA := Lib.hid (HA.out.keep hX)
      replace HB := Lib.hid (HB.out.keep hX)
      have xb0 : w2.cell? ⟨wr.heap.size, 0, none⟩ = some (.int .i64 x1) := cellB hb' (by simp [go_sem])
      have xb1 : w2.cell? ⟨wr.heap.size, 1, none⟩ = some (.int .i64 x2) := cellB hb' (by simp [go_sem])
      have zxb0 := lt_of_cell xb0
      replace hB := nextW hB hX
      clear hb' hX c0 c1
      go_wp2_with fail
      refine (imAt_is g _ x1 x2 za zb tz _ (HG.out.keep (nextX hB (by go_grown))) MG.out HUx.out HZa.out).mono ?_
      rintro e w3 ⟨rfl, hb'⟩
      have hX : Below w2.heap.size w2 w3 := nextX (by go_grown) hb'
      have hX3 := hX
      have zz2 := zxb0
      replace HA := Lib.hid (HA.out.keep hX)
      replace HB := Lib.hid (HB.out.keep hX)
      replace xb0 := cellB hX xb0
      replace xb1 := cellB hX xb1
      have yb0 : w3.cell? ⟨w2.heap.size, 0, none⟩ = some (.int .i64 ya) := cellB hb' (by simp [go_sem])
      have yb1 : w3.cell? ⟨w2.heap.size, 1, none⟩ = some (.int .i64 yb) := cellB hb' (by simp [go_sem])
      have zyb0 := lt_of_cell yb0
      have zxb0 := Nat.lt_of_lt_of_le zxb0 hX.size
      replace hB := nextW hB hX
      clear hb' hX
      have hz3 : wr.heap.size < w3.heap.size := zxb0
      have hz2 : w2.heap.size < w3.heap.size := zyb0
      have hz4 : wr.heap.size ≤ w2.heap.size := Nat.le_of_lt zz2
      have hb3 : Below W0.heap.size W0 w3 := nextX (nextX hb hX2) hX3
      rcases hff : (ty && tz) with _ | _
      · have hno := fine_not HX.out (HFv.out.trans hff)
        obtain ⟨rfl, rfl, rfl⟩ : [] = ra ∧ [] = rb ∧ false = t := by have := HL.out; unfold cvQ at this; rw [if_neg (by rw [hno]; simp)] at this; simpa using this
        have hw : ty = false ∨ (ty = true ∧ tz = false) := by cases ty <;> cases tz <;> simp at hff ⊢
        rcases hw with rfl | ⟨rfl, rfl⟩
        · go_wp2_with fail
          go_ret3
          exact ⟨_, _, rfl, World.ownsRow_nil _ _ _ _, World.ownsRow_nil _ _ _ _, nextX hB (by go_grown)⟩
        · go_wp2_with fail
          go_ret3
          exact ⟨_, _, rfl, World.ownsRow_nil _ _ _ _, World.ownsRow_nil _ _ _ _, nextX hB (by go_grown)⟩
      · obtain ⟨rfl, rfl⟩ : ty = true ∧ tz = true := by cases ty <;> cases tz <;> simp at hff ⊢
        obtain ⟨rfl, rfl⟩ := HYt.out rfl
        obtain ⟨rfl, rfl⟩ := HZt.out rfl
        have hfx := HFv.out.trans hff
        have hw03 : W0.heap.size ≤ w3.heap.size := hb3.size
        go_wp2_with (at_builtin; refine append_q1f _ rfl (.tmp 41) (.tmp 43) rfl W0.heap.size _ ((valA f g).take k) rfl ?oa _ _ ya yb rfl ?c0a ?c1a ?la ?ba ?_)
        case oa => exact HA.out.keep (by go_grown)
        try (case c0a => simp [go_sem])
        try (case c1a => simp [go_sem])
        case la => omega
        case ba => go_size
        intro va w4 h4 g4 f4
        have HA4 := Lib.hid (show OwQ W0.heap.size 31 w4 va ((valA f g).take (k + 1)) from by unfold valA; rw [HSa.out]; exact h4)
        have gb4 : Below W0.heap.size W0 w3 := hb3
        have HB4 := Lib.hid ((HB.out.keep (by go_grown)).keepG g4 (fun b h => HSep.out b h))
        have zq0 : w4.cell? ⟨w3.heap.size, 0, none⟩ = some (.int .i64 za) := g4.cell (by simp [go_sem]) (fun e => by have := HOa.out w3.heap.size e.symm; omega)
        have zq1 : w4.cell? ⟨w3.heap.size, 1, none⟩ = some (.int .i64 zb) := g4.cell (by simp [go_sem]) (fun e => by have := HOa.out w3.heap.size e.symm; omega)
        have hz5 : w3.heap.size < w4.heap.size := lt_of_cell zq0
        have HS4 := Lib.hid (show Sep va u8 from fun b h1 h2 => by have := HOb.out b h2; rcases f4 b h1 with h | h; exact HSep.out b h h2; have : wr.heap.size < b := by { have : w3.heap.size ≤ b := Nat.le_trans (by go_size) h; omega }; omega)
        have hW4 : Below W0.heap.size W0 w4 := Below.grown (nextX hb3 (by go_grown)) g4 (by go_size) (fun b h => (World.ownsRow.lt HA.out b h).1)
        have hw04 : W0.heap.size ≤ w4.heap.size := hW4.size
        clear h4 g4 f4 HA HB xb0 xb1 yb0 yb1
        go_wp2_with (at_builtin; refine append_q1f _ rfl (.tmp 45) (.tmp 47) rfl W0.heap.size _ ((valB f g).take k) rfl ?ob _ _ za zb rfl ?c0b ?c1b ?lb ?bb ?_)
        case ob => exact HB4.out.keep (by go_grown)
        try (case c0b => simp [go_sem])
        try (case c1b => simp [go_sem])
        case lb => omega
        case bb => go_size
        intro vb w5 h5 g5 f5
        have HB5 := Lib.hid (show OwQ W0.heap.size 31 w5 vb ((valB f g).take (k + 1)) from by unfold valB; rw [HSb.out]; exact h5)
        have HA5 := Lib.hid ((HA4.out.keep (by go_grown)).keepG g5 (fun b h h2 => HS4.out b h2 h))
        have HS5 := Lib.hid (show Sep va vb from fun b h1 h2 => by have := (World.ownsRow.lt HA4.out b h1).2; rcases f5 b h2 with h | h; exact HS4.out b h1 h; have : w4.heap.size ≤ b := Nat.le_trans (by go_size) h; omega)
        have hW5 : Below W0.heap.size W0 w5 := Below.grown (nextX hW4 (by go_grown)) g5 (by go_size) (fun b h => (World.ownsRow.lt HB4.out b h).1)
        clear h5 g5 f5 HA4 HB4
        go_wp2_with fail
        go_roundw
        case rel => exact ⟨k + 1, by omega, by go_num, HA5.out, HB5.out, HS5.out, HFi.out.next HX.out hfx, hW5⟩
        case measure => simp [intOf]; omega
    · obtain rfl : k = (bothQ f g).length := by omega
      have hfa : allFine f g = true := HFi.out.all
      obtain ⟨rfl, rfl, rfl⟩ : valA f g = ra ∧ valB f g = rb ∧ true = t := by have := HL.out; unfold cvQ at this; rw [if_pos hfa] at this; simpa using this
      have HE := Lib.hid (show OwQ W0.heap.size 31 wr u7 (valA f g) by have := HA.out; rwa [List.take_of_length_le (by omega)] at this)
      have HE2 := Lib.hid (show OwQ W0.heap.size 31 wr u8 (valB f g) by have := HB.out; rwa [List.take_of_length_le (by omega)] at this)
      clear HA HB
      go_wp2_with fail
      go_ret3
      exact ⟨_, _, rfl, HE.out.low B1.size, HE2.out.low B1.size, hB⟩

end Go.Proofs.YtkeajfgcjmhmiaaGreat
