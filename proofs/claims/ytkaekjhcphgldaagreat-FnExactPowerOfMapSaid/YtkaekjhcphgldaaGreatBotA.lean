/- The reference's values of two maps at all points of both. -/
import Derived.Test.YtkaekjhcphgldaaGreatRisE
import Derived.Test.YtkaekjhcphgldaaGreatPut
import Derived.Test.YtkaekjhcphgldaaGreatFix0
import Derived.Deep.DeepAppendRoom
namespace Go.Proofs.YtkaekjhcphgldaaGreat
open Go.RowKit

set_option maxRecDepth 100000 in
/-- One fraction more: the row lies where it lay, or in a block that is new. -/
theorem append_q1f {ops : Array Oper} {rest : List Oper} {o : Oper} {a : Act} {K : Exit → Act → World → Prop} (w : World) (hgd : o.guard = none) (s x : Operand)
    (ho : o.op = .call { callee := .builtin .append, args := #[s, x], argTypes := #[41, 41] })
    (base : Nat) (v : Value) (qs : List Q) (hs : a.eval s = v) (hown : OwQ base 36 w v qs)
    (g c : Nat) (n d : Int) (hx : a.eval x = .slice (some ⟨g, 0, none⟩) 1 c) (c0 : w.cell? ⟨g, 0, none⟩ = some (.int .i64 n)) (c1 : w.cell? ⟨g, 1, none⟩ = some (.int .i64 d))
    (hlen : qs.length ≤ 900000) (hbase : base ≤ w.heap.size)
    (h : ∀ v' w', OwQ base 36 w' v' (qs ++ [(n, d)]) → w.grownBy w' v.ownBlock → (∀ b, v'.ownBlock = some b → v.ownBlock = some b ∨ w.heap.size ≤ b) → wpList Tryz.prog ops K rest (a.put o.dst v') w') : wpList Tryz.prog ops K (o :: rest) a w := by
  obtain ⟨i, hi, hz, hsz, hb⟩ := info_parts Tryz.infoQ
  have hcell : ∀ j u, (rowQ [(n, d)])[j]? = some u → w.cell? ((⟨g, 0, none⟩ : Addr).add j) = some u := by
    intro j u hj
    have hadd : (⟨g, 0, none⟩ : Addr).add j = ⟨g, j, none⟩ := by unfold Addr.add; split <;> simp_all
    rw [hadd]
    match j, hj with
    | 0, hj => simp [rowQ] at hj; subst hj; exact c0
    | 1, hj => simp [rowQ] at hj; subst hj; exact c1
    | j + 2, hj => simp [rowQ] at hj
  have hone : ∀ u ∈ rowQ [(n, d)], u.oneCell' = true := by
    intro u hu
    simp [rowQ] at hu
    rcases hu with rfl | rfl <;> rfl
  have hfresh : ∀ v' w', (Builtin.append_ #[41, 41] o.type #[v, .slice (some ⟨g, 0, none⟩) 1 c]).run Tryz.prog w = .ok v' w' → ∀ b, v'.ownBlock = some b → v.ownBlock = some b ∨ w.heap.size ≤ b := by
    intro v' w' hr b hvb
    rcases hown.2 with ⟨rfl, hn⟩ | ⟨k, cap, cur, rfl, hbk, hk, hnc, hcm, hcs, htake⟩
    · have hr2 := _root_.Go.run_append_nil (P := Tryz.prog) w 41 o.type 36 i _ Tryz.underlying41 hi hz ⟨g, 0, none⟩ 1 c (rowQ [(n, d)]) (by rw [hsz]; rfl) hcell (by omega) (by omega) (by rw [hb]; omega)
      rw [hr2] at hr
      simp only [Result.ok.injEq] at hr
      rw [← hr.1] at hvb
      simp only [Value.ownBlock, Option.some.injEq] at hvb
      exact Or.inr (by omega)
    · by_cases hroom : qs.length + 1 ≤ cap
      · obtain ⟨w2, hr2, -, -⟩ := run_append_own_spare (P := Tryz.prog) w base 41 o.type 36 i 2 Tryz.underlying41 hi hsz k qs.length cap (rowQ qs) hown ⟨g, 0, none⟩ 1 c (rowQ [(n, d)]) rfl hcell hone hroom
        rw [hr2] at hr
        simp only [Result.ok.injEq] at hr
        rw [← hr.1] at hvb
        exact Or.inl hvb
      · have holds : ∀ j u, (rowQ qs)[j]? = some u → w.cell? ((⟨k, 0, none⟩ : Addr).add j) = some u := World.ownsRow.cells hown (g := k) rfl
        have hr2 := run_append_grow (P := Tryz.prog) w 41 o.type 36 i _ Tryz.underlying41 hi hz ⟨k, 0, none⟩ qs.length cap (rowQ qs) (by rw [hsz]; exact hown.1) holds ⟨g, 0, none⟩ 1 c (rowQ [(n, d)]) (by rw [hsz]; rfl) hcell (by omega) (by omega) (growslice_fits (by omega) (by rw [hb]; omega))
        rw [hr2] at hr
        simp only [Result.ok.injEq] at hr
        rw [← hr.1] at hvb
        simp only [Value.ownBlock, Option.some.injEq] at hvb
        exact Or.inr (by omega)
  obtain ⟨v', w', hr, h2, h3, -⟩ := run_append_own (P := Tryz.prog) w base 41 o.type 36 i _ 2 16 Tryz.underlying41 hi hz hsz hb rfl (by decide) v qs.length (rowQ qs) hown ⟨g, 0, none⟩ 1 c (rowQ [(n, d)]) rfl hcell hone (by unfold maxLen; omega) (by omega) hbase
  refine wpList_plain hgd fun _ hK => ?_
  unfold Oper.wp execOp
  simp only [ho, resolve, invoke, builtin, Sem.run_bind, Sem.run_pure, Result.andThen_ok, List.map_toArray, List.map_cons, List.map_nil, hs, hx, hr]
  refine hK _ _ (h v' w' ?_ h3 (hfresh v' w' hr))
  unfold OwQ; rw [List.length_append, rowQ_app]; exact h2

theorem upQ_xs {ps : List Pt} (h : okMap ps = true) : UpQ (ps.map (·.1)) := by
  unfold UpQ
  rw [List.pairwise_map, List.pairwise_iff_getElem]
  have step : ∀ (n i : Nat) (hj : i + n + 1 < ps.length), toR (ps[i]'(by omega)).1 < toR (ps[i + n + 1]).1 := by
    intro n
    induction n with
    | zero =>
      intro i hj
      have h1 := List.getElem?_eq_getElem (show i < ps.length by omega)
      have h2 := List.getElem?_eq_getElem (show i + 1 < ps.length by omega)
      have hl := okMap_rising h h1 h2
      have k1 := okQ_bd (unitQ_ok (coordQ_unit (okMap_coord h h1).1))
      have k2 := okQ_bd (unitQ_ok (coordQ_unit (okMap_coord h h2).1))
      exact (lessQ_iff k1.1 k2.1).1 hl
    | succ n ih =>
      intro i hj
      have h1 := ih i (by omega)
      have h3 := List.getElem?_eq_getElem (show i + n + 1 < ps.length by omega)
      have h4 := List.getElem?_eq_getElem (show i + n + 1 + 1 < ps.length by omega)
      have hl := okMap_rising h h3 h4
      have k1 := okQ_bd (unitQ_ok (coordQ_unit (okMap_coord h h3).1))
      have k2 := okQ_bd (unitQ_ok (coordQ_unit (okMap_coord h h4).1))
      have h2 := (lessQ_iff k1.1 k2.1).1 hl
      exact Std.lt_trans h1 h2
  intro i j hi hj hij
  obtain ⟨n, rfl⟩ : ∃ n, j = i + n + 1 := ⟨j - i - 1, by omega⟩
  exact step n i hj
/-- The points of both, as the reference has them. -/
def bothTo (f g : List Pt) (k : Nat) : List Q := ((g.map (·.1)).take k).foldl (fun l x => insQ x l) (f.map (·.1))
theorem bothTo_zero (f g : List Pt) : bothTo f g 0 = f.map (·.1) := by unfold bothTo; simp
theorem bothTo_next {f g : List Pt} {k : Nat} {p : Pt} (h : g[k]? = some p) : bothTo f g (k + 1) = insQ p.1 (bothTo f g k) := by
  unfold bothTo
  rw [take_map_snoc h, List.foldl_append]; rfl
theorem bothTo_ok {f g : List Pt} (hf : okMap f = true) (hg : okMap g = true) (k : Nat) : OkL (bothTo f g k) := fun x hx => by
  unfold bothTo at hx
  rw [foldQ_mem] at hx
  rcases hx with hx | hx
  · exact okL_xs hf x hx
  · exact okL_xs hg x (List.mem_of_mem_take hx)
theorem bothTo_len (f g : List Pt) (k : Nat) : (bothTo f g k).length ≤ f.length + g.length := by
  unfold bothTo
  have h1 := foldQ_len ((g.map (·.1)).take k) (f.map (·.1))
  rw [List.length_map, List.length_take, List.length_map] at h1
  omega
theorem bothTo_all {f g : List Pt} (hf : okMap f = true) (hg : okMap g = true) : bothTo f g g.length = bothQ f g := by
  have hu : UpQ (bothTo f g g.length) := by
    unfold bothTo
    rw [List.take_of_length_le (by simp)]
    exact foldQ_up (okL_xs hg) (okL_xs hf) (upQ_xs hf)
  refine setQ_of ((okL_xs hf).app (okL_xs hg)) hu (fun x => ?_)
  unfold bothTo
  rw [List.take_of_length_le (by simp), foldQ_mem, List.mem_append]
theorem bothQ_len (f g : List Pt) : (bothQ f g).length ≤ f.length + g.length := by
  have := setQ_len (f.map (·.1) ++ g.map (·.1))
  rw [List.length_append, List.length_map, List.length_map] at this
  exact this
theorem bothQ_unit {f g : List Pt} (hf : okMap f = true) (hg : okMap g = true) : ∀ x ∈ bothQ f g, unitQ x.1 x.2 = true := fun x hx => by
  unfold bothQ at hx
  rw [setQ_mem, List.mem_append] at hx
  rcases hx with hx | hx
  · obtain ⟨p, hp, rfl⟩ := List.mem_map.1 hx
    obtain ⟨i, hi⟩ := List.getElem?_of_mem hp
    exact coordQ_unit (okMap_coord hf hi).1
  · obtain ⟨p, hp, rfl⟩ := List.mem_map.1 hx
    obtain ⟨i, hi⟩ := List.getElem?_of_mem hp
    exact coordQ_unit (okMap_coord hg hi).1

set_option maxHeartbeats 800000 in
theorem coXs_any (ps : List Pt) (v : Value) (w : World) (hv : RdP w v ps) (hn : ps.length ≤ 800000) :
    Calls Tryz.prog 46 #[v] w (RetQ w (ps.map (·.1))) := by
  obtain ⟨A, c, rfl, hl, hm, hcell⟩ := hv
  unfold maxLen at hm
  have HC := Lib.hid hcell
  clear hcell
  go_enter Tryz.func46, Tryz.ntmps46
  go_wp2_with fail
  go_loopw [3, 8] (fun out i wr => RelX ps w out i wr) (fun _ i _ => ps.length - (intOf i).toNat)
  case atStart => exact ⟨0, Nat.zero_le _, rfl, World.ownsRow_nil _ _ _ _, Below.refl _ _⟩
  case round =>
    obtain ⟨k, hk, rfl, hown, hb⟩ := hrel
    have HO := Lib.hid hown
    clear hown
    by_cases hlt : k < ps.length
    · obtain ⟨g, o, rfl, hg, hc⟩ := HC.out (by intro h; rw [h] at hlt; simp at hlt)
      have hq := hc k ps[k] (List.getElem?_eq_getElem hlt)
      have hqk := List.getElem?_eq_getElem hlt
      generalize ps[k] = q at *
      obtain ⟨⟨a1, a2⟩, a3, a4⟩ := q
      obtain ⟨c0, c1, c2, c3⟩ := hq
      rw [← hb.cell (p := ⟨g, _, none⟩) hg] at c0 c1 c2 c3
      clear hc HC
      have HS := Lib.hid (take_map_snoc hqk)
      clear hqk
      have z := hb.size
      go_wp2_with (at_builtin; refine append_q1 _ rfl _ _ rfl w.heap.size _ ((ps.map (·.1)).take k) rfl ?own _ _ a1 a2 rfl ?c0 ?c1 ?len ?base ?_)
      case own => exact (OwQ.keep HO.out (by go_grown))
      case len => omega
      case base => go_size
      intro v' w' hown hb2
      have hB : Below w.heap.size w w' := Below.trans (by go_grown) hb2
      clear hb2 c0 c1 c2 c3
      have HO2 := Lib.hid hown
      clear hown HO
      go_wp2_with fail
      go_roundw
      case rel => exact ⟨k + 1, by omega, by go_num, by rw [HS.out]; exact HO2.out, hB⟩
      case measure => simp [intOf]; omega
    · obtain rfl : k = ps.length := by omega
      have HE := Lib.hid (show OwQ w.heap.size 36 wr u3 (ps.map (·.1)) by have := HO.out; rwa [List.take_of_length_le (by simp)] at this)
      clear HO
      go_wp2_with fail
      go_ret
      exact ⟨_, rfl, HE.out, hb⟩

def RelBo (f g : List Pt) (h : Nat) (W0 : World) (out i : Value) (wr : World) : Prop :=
  ∃ k : Nat, k ≤ g.length ∧ i = .int .i64 k ∧ OwQ h 36 wr out (bothTo f g k) ∧ Below W0.heap.size W0 wr

set_option maxHeartbeats 1600000 in
theorem coBoth_is (f g : List Pt) (vf vg : Value) (w : World) (hf : RdP w vf f) (hg : RdP w vg g) (mf : okMap f = true) (mg : okMap g = true) :
    Calls Tryz.prog 26 #[vf, vg] w (RetQ w (bothQ f g)) := by
  have HF := Lib.hid hf
  have HG := Lib.hid hg
  have l1 := okMap_len mf
  have l2 := okMap_len mg
  have HOk := Lib.hid (bothTo_ok mf mg)
  have HLe := Lib.hid (bothTo_len f g)
  have HAll := Lib.hid (bothTo_all mf mg)
  have HUg := Lib.hid (okL_xs mg)
  clear hf hg mf mg
  go_enter Tryz.func26, Tryz.ntmps26
  go_wp2_with fail
  refine (coXs_any f _ w HF.out (by omega)).mono ?_
  rintro e w1 ⟨r1, rfl, os1, hb1⟩
  have z1 := hb1.size
  go_wp2_with fail
  refine (coXs_any g _ w1 (HG.out.keep hb1) (by omega)).mono ?_
  rintro e w2 ⟨r2, rfl, os2, hb2⟩
  have z2 := hb2.size
  obtain ⟨gs, cs, rfl, hs1, hs2, hs3, hs4, hsc⟩ := os2.lit (n := g.length) (by simp) (by omega)
  unfold maxLen at hs2
  have HSC := Lib.hid hsc
  have H1 := Lib.hid (show OwQ w.heap.size 36 w2 r1 (bothTo f g 0) from by rw [bothTo_zero]; exact os1.keep hb2)
  have B2 : Below w.heap.size w w2 := Below.trans hb1 (hb2.mono z1)
  clear os1 os2 hb1 hb2 hsc
  go_wp2_with fail
  go_name_world W0 hW
  rw [hW] at H1 HSC B2 hs4
  clear hW
  go_loopw [5, 13] (fun out i wr => RelBo f g w.heap.size W0 out i wr) (fun _ i _ => g.length - (intOf i).toNat)
  case atStart => exact ⟨0, Nat.zero_le _, rfl, H1.out, Below.refl _ _⟩
  case round =>
    obtain ⟨k, hk, rfl, hown, hb⟩ := hrel
    have HO := Lib.hid hown
    have hzr : w.heap.size ≤ wr.heap.size := Nat.le_trans B2.size hb.size
    clear hown
    by_cases hlt : k < g.length
    · have hp := List.getElem?_eq_getElem hlt
      generalize g[k] = p at *
      have hpx : (g.map (·.1))[k]? = some p.1 := by rw [List.getElem?_map, hp]; rfl
      obtain ⟨c0, c1⟩ := HSC.out k _ hpx
      have HSn := Lib.hid (bothTo_next (f := f) hp)
      have hox := Lib.hid (HUg.out _ (List.mem_of_getElem? hpx))
      have hle := HLe.out k
      obtain ⟨⟨p1, p2⟩, p3, p4⟩ := p
      replace c0 := cellB hb c0
      replace c1 := cellB hb c1
      have b0 : (0 : Int) ≤ (k : Int) := by omega
      have b1 : (k : Int) < (g.length : Int) := by omega
      have v2 : IntKind.i64.wrap ((k : Int) + 1) = (k : Int) + 1 := IntWalk.i64_in _ (by omega)
      have v3 : IntKind.i64.wrap (k : Int) = (k : Int) := IntWalk.i64_in _ (by omega)
      clear hp hpx
      go_wp2_with fail
      refine (imPut_is w.heap.size (bothTo f g k) _ p1 p2 _ (HO.out.keep (by go_grown)) (HOk.out k) hox.out (by omega) (by go_size)).mono ?_
      rintro e w5 ⟨r5, rfl, ow, hb5⟩
      have hX : Below wr.heap.size wr w5 := nextX (by go_grown) hb5
      have HO5 := Lib.hid ow
      have hB5 : Below W0.heap.size W0 w5 := nextW hb hX
      clear ow hb5 hX HO c0 c1
      go_wp2_with fail
      go_roundw
      case rel => exact ⟨k + 1, by omega, by go_num, by rw [HSn.out]; exact HO5.out, hB5⟩
      case measure => simp [intOf]; omega
    · obtain rfl : k = g.length := by omega
      have HE := Lib.hid (show OwQ w.heap.size 36 wr u5 (bothQ f g) by have := HO.out; rwa [HAll.out] at this)
      have hB : Below w.heap.size w wr := Below.trans B2 (hb.mono B2.size)
      clear HO
      go_wp2_with fail
      go_ret
      exact ⟨_, rfl, HE.out, hB⟩

end Go.Proofs.YtkaekjhcphgldaaGreat
