/- ReflectMap, the program's. -/
import Derived.Test.YtkeajfgcjmhmiaaGreatDoorM40
namespace Go.Proofs.YtkeajfgcjmhmiaaGreatDoor
open Go.RowKit Go.Shelf

attribute [local go_sem] Oper.semAt_some

/-- A point's box. -/
def BoxPt (W : World) (B : Nat) (p : Pt) : Prop := W.heap[B]? = some (.cells #[.int .i64 p.1.1, .int .i64 p.1.2, .int .i64 p.2.1, .int .i64 p.2.2] 41 (0, 0))
theorem boxPt_cells {W : World} {B : Nat} {p : Pt} (h : BoxPt W B p) : W.cell? ⟨B, 0, none⟩ = some (.int .i64 p.1.1) ∧ W.cell? ⟨B, 1, none⟩ = some (.int .i64 p.1.2) ∧ W.cell? ⟨B, 2, none⟩ = some (.int .i64 p.2.1) ∧ W.cell? ⟨B, 3, none⟩ = some (.int .i64 p.2.2) := by
  unfold BoxPt at h
  refine ⟨?_, ?_, ?_, ?_⟩ <;> simp [World.cell?, h]
theorem boxPt_kept {W W' : World} {row : Option Nat} {B : Nat} {p : Pt} (h : BoxPt W B p) (hg : W.grownBy W' row) (hr : ∀ r, row = some r → ∃ o : Obj, W.heap[r]? = some o ∧ o.isCells = false) : BoxPt W' B p := by
  unfold BoxPt at h ⊢
  rw [hg.block B (Array.getElem?_eq_some_iff.1 h).1 (fun e => by obtain ⟨o, ho, hc⟩ := hr B e.symm; rw [h] at ho; cases ho; cases hc)]
  exact h
theorem KpO.set {O n₀ : Nat} (W : World) (v : Value) : KpO O n₀ W (W.setCell ⟨O, 0, none⟩ v) := ⟨rfl, rfl, rfl, by simp [World.setCell], fun k _ hk => Below.heap_setCell _ _ _ _ hk⟩
theorem boxedB {B b : Nat} {W W' : World} {t : TypeId} {v : Value} (h : Boxed W b t v) (hb : Below B W W') (hlt : b < B) : Boxed W' b t v := (hb.block b hlt).trans h
theorem keepsFrom_below {B : Nat} {W W' : World} (h : Below W.heap.size W W') : KeepsFrom B W W' := ⟨h.size, fun k o _ hk _ => by rw [h.block k (Array.getElem?_eq_some_iff.1 hk).1]; exact hk⟩

/-- Appending one point: what of the world turns. -/
theorem append_pg {ops : Array Oper} {rest : List Oper} {o : Oper} {a : Act} {K : Exit → Act → World → Prop} (w : World) (hgd : o.guard = none) (s x : Operand)
    (ho : o.op = .call { callee := .builtin .append, args := #[s, x], argTypes := #[23, 23] })
    (base : Nat) (v : Value) (ps : List Pt) (hs : a.eval s = v) (hown : OwP base 41 w v ps)
    (g c : Nat) (x1 x2 y1 y2 : Int) (hx : a.eval x = .slice (some ⟨g, 0, none⟩) 1 c) (c0 : w.cell? ⟨g, 0, none⟩ = some (.int .i64 x1)) (c1 : w.cell? ⟨g, 1, none⟩ = some (.int .i64 x2)) (c2 : w.cell? ⟨g, 2, none⟩ = some (.int .i64 y1)) (c3 : w.cell? ⟨g, 3, none⟩ = some (.int .i64 y2))
    (hlen : ps.length ≤ 900000) (hbase : base ≤ w.heap.size)
    (h : ∀ v' w', OwP base 41 w' v' (ps ++ [((x1, x2), y1, y2)]) → Below base w w' → (∀ B, KeepsFrom B w w') → wpList Tryz.prog ops K rest (a.put o.dst v') w') : wpList Tryz.prog ops K (o :: rest) a w := by
  obtain ⟨i, hi, hz, hsz, hb⟩ := info_parts Tryz.infoPa
  have hcell : ∀ j u, (rowP [((x1, x2), y1, y2)])[j]? = some u → w.cell? ((⟨g, 0, none⟩ : Addr).add j) = some u := by
    intro j u hj
    have hadd : (⟨g, 0, none⟩ : Addr).add j = ⟨g, j, none⟩ := by unfold Addr.add; split <;> simp_all
    rw [hadd]
    match j, hj with
    | 0, hj => simp [rowP] at hj; subst hj; exact c0
    | 1, hj => simp [rowP] at hj; subst hj; exact c1
    | 2, hj => simp [rowP] at hj; subst hj; exact c2
    | 3, hj => simp [rowP] at hj; subst hj; exact c3
    | j + 4, hj => simp [rowP] at hj
  have hone : ∀ u ∈ rowP [((x1, x2), y1, y2)], u.oneCell' = true := by
    intro u hu
    simp [rowP] at hu
    rcases hu with rfl | rfl | rfl | rfl <;> rfl
  refine wpList_append_own w hgd s x 23 ho base 41 i _ 4 32 Tryz.underlying23 hi hz hsz hb rfl (by decide) v ps.length (rowP ps) hs hown ⟨g, 0, none⟩ 1 c (rowP [((x1, x2), y1, y2)]) hx rfl hcell hone (by unfold maxLen; omega) (by omega) hbase ?_
  intro v' w' h1 h2 _
  refine h v' w' ?_ ((Below.refl _ _).grown h2 hbase (fun k hk => (hown.lt k hk).1)) (fun B => ⟨h2.size, fun k ob _ hk hc => ?_⟩)
  · unfold OwP; rw [List.length_append, rowP_app]; exact h1
  · rw [h2.block k (Array.getElem?_eq_some_iff.1 hk).1 (fun e => ?_)]; exact hk
    rcases hown.2 with ⟨rfl, _⟩ | ⟨g', cap', cur, rfl, _, hh, _⟩
    · simp [Value.ownBlock] at e
    · simp [Value.ownBlock] at e
      subst e
      rw [hh] at hk; cases hk; cases hc

set_option maxRecDepth 100000 in
set_option maxHeartbeats 8000000 in
theorem iReflectMap_is (ps : List Pt) (v : Value) (l : List Pt) (t : Bool) (hl0 : reflMapQ ps = (l, t)) (w : World) (hv : RdP w v ps) (hn : ps.length ≤ 1048576) :
    Calls Tryz.prog 7 #[v] w (RetPB w l t) := by
  have HV := Lib.hid hv
  refine (callsIn_wide (n := 6)).1 ?_
  rcases hm : okMap ps with _ | _
  · obtain ⟨rfl, rfl⟩ : [] = l ∧ false = t := by unfold reflMapQ at hl0; rw [if_neg (by rw [hm]; simp)] at hl0; exact Prod.mk.inj hl0
    have HM := Lib.hid hm
    clear hv hl0 hm
    refine callsIn_of_wp_marks Tryz.func7 rfl trivial ?_ rfl
    simp only [Tryz.ntmps7, List.size_toArray, List.length_cons, List.length_nil, Nat.reduceAdd, Nat.reduceSub, Array.replicate_succ, Array.replicate_zero, List.push_toArray, List.append_toArray, List.nil_append, List.cons_append]
    gi_wp2_with (refine ⟨trivial, ?_⟩; gi_at_call 26; refine (callsIn_wide.2 (isMap_is ps v false _ (HV.out.keep (by go_grown)) hn HM.out)).mono ?_; rintro e w1 ⟨rfl, hb⟩)
    exact ⟨.tuple #[.slice none 0 0, .bool false], by simp [results, Tryz.results7, go_sem], _, rfl, World.ownsRow_nil _ _ _ _, hb⟩
  · obtain ⟨rfl, rfl⟩ : reflectQ ps = l ∧ true = t := by unfold reflMapQ at hl0; rw [if_pos hm] at hl0; exact Prod.mk.inj hl0
    have HM := Lib.hid hm
    have hlm := okMap_len hm
    have HBd := Lib.hid (bdB_map hm)
    have HAll := Lib.hid (bkL_all hm)
    obtain ⟨A, c, rfl, hl, hm9, hcell⟩ := hv
    obtain ⟨g, o, rfl, hg, hc⟩ := hcell (by intro h; rw [h] at hlm; simp at hlm)
    have HC := Lib.hid hc
    clear hl0 hm hcell hc
    refine callsIn_of_wp_marks Tryz.func7 rfl trivial ?_ rfl
    simp only [Tryz.ntmps7, List.size_toArray, List.length_cons, List.length_nil, Nat.reduceAdd, Nat.reduceSub, Array.replicate_succ, Array.replicate_zero, List.push_toArray, List.append_toArray, List.nil_append, List.cons_append]
    gi_wp2_with (first | (refine ⟨trivial, ?_⟩; gi_at_call 26; refine (callsIn_wide.2 (isMap_is ps _ true _ (HV.out.keep (by go_grown)) hn HM.out)).mono ?_; rintro e w1 ⟨rfl, hb⟩) | (refine ⟨trivial, ?_⟩; gi_at_call 29; refine (back_in _ _ _ _ _).mono ?_; rintro e w2 ⟨rfl, rfl⟩))
    have hz1 := hb.size
    obtain ⟨O, hO⟩ : ∃ O, w1.heap.size = O := ⟨_, rfl⟩
    obtain ⟨W0, hW0⟩ : ∃ W0, (w1.alloc (.cells #[.slice none 0 0] 23)).alloc (.cells #[.slice (some ⟨g, o, none⟩) ps.length c] 23) = W0 := ⟨_, rfl⟩
    have bO : Boxed W0 w1.heap.size 23 (.slice none 0 0) := by rw [← hW0]; exact (Boxed.new w1 _ _).alloc _
    have bS : W0.cell? ⟨w1.heap.size + 1, 0, none⟩ = some (.slice (some ⟨g, o, none⟩) ps.length c) := by rw [← hW0]; simp [go_sem]
    have hsz : W0.heap.size = w1.heap.size + 2 := by rw [← hW0]; simp
    have hB1 : Below w1.heap.size w1 W0 := by rw [← hW0]; go_grown
    have hB0 : Below w.heap.size w W0 := nextW hb hB1
    simp only [hW0] 
    simp only [hO] at *
    clear hW0 hB1 hb
    refine wpIn_rangeFunc_ownH rfl (by omega) (gf := 60) (lb := #[.pointer (some ⟨O + 1, 0, none⟩)]) rfl trivial (enters_of Tryz.func60 (by kernel_rfl) rfl)
      (back_stops _ (O + 1) (O + 2) O g o c ps HBd.out (by omega) (by omega) ⟨hl, hm9⟩ (by omega) (by omega) W0 bS (fun i p hp => ⟨cellB hB0 (HC.out i p hp).1, cellB hB0 (HC.out i p hp).2.1, cellB hB0 (HC.out i p hp).2.2.1, cellB hB0 (HC.out i p hp).2.2.2⟩))
      KpO.t (KpO.b (by omega)) (Below.refl _ _) (fun _ => rfl)
      (fun (pre : List BP) W => (∃ u, Boxed W O 23 u ∧ W.ownsRow (O + 2) 41 4 u (pre.map (fun x : BP => reflP x.1.2)).length (rowP (pre.map (fun x : BP => reflP x.1.2))) ∧ True) ∧ (O + 2 ≤ W.heap.size ∧ Below w.heap.size w W))
      (fun _ _ _ => False)
      (OwnFrom.and (Own.from (holdsRow_own (O + 2) O 23 41 4 (fun (pre : List BP) => (pre.map (fun x : BP => reflP x.1.2)).length) (fun (pre : List BP) => rowP (pre.map (fun x : BP => reflP x.1.2))) (fun _ _ => True)) _) (OwnFrom.and (fun _ _ _ _ hs hg _ => Nat.le_trans hs hg.size) (ownFrom_below (Nat.le_refl _) (by omega))))
      (fun _ _ _ _ _ hs _ _ => hs)
      ⟨⟨_, bO, World.ownsRow_nil _ _ _ _, trivial⟩, by omega, hB0⟩
      (fun x a' W => ∃ Bx, O + 1 < Bx ∧ BoxPt W Bx x.1.2 ∧ a' = { tmps := #[.slice (some ⟨g, o, none⟩) ps.length c, undef, .slice none 0 0, .bool false, .pointer (some ⟨O, 0, none⟩), undef, .pointer (some ⟨Bx, 0, none⟩), .slice (some ⟨g, o, none⟩) ps.length c, .bool true, .bool false, .slice (some ⟨g, o, none⟩) ps.length c, .func (.func 60) #[] #[.pointer (some ⟨O + 1, 0, none⟩)], .int .i64 x.1.1, .agg #[.int .i64 x.1.2.1.1, .int .i64 x.1.2.1.2, .int .i64 x.1.2.2.1, .int .i64 x.1.2.2.2], undef, undef, undef, undef, undef, undef, undef, undef, undef, undef, undef], defers := [] })
      (fun x a' _ X Y row hs hg hr => by obtain ⟨Bx, h1, h2, h3⟩ := hs; exact ⟨Bx, h1, boxPt_kept h2 hg (fun r e => (hr r e).2), h3⟩)
      ?assign ?body ?done ?stop
    case assign =>
      rintro l pre x W K ⟨⟨u, hu, hrow, -⟩, h2, hB⟩ hK
      simp only [encP]
      gi_wp2
      exact hK _ _ ((KeepsOthers.alloc _ _).from _) (KpO.of_below ((Below.refl _ W).alloc h2 _)) ⟨⟨u, hu.alloc _, hrow.alloc _, trivial⟩, by simp; omega, hB.alloc hB.size _⟩ ⟨W.heap.size, by omega, World.alloc_heap_new W _, rfl⟩
    case body =>
      rintro l pre x a' W hl9 ⟨r, hr⟩ ⟨⟨u, hu, hrow, -⟩, h2, hB⟩ ⟨Bx, hBx, bX, rfl⟩ hlt
      obtain ⟨⟨xi, ⟨p1, p2⟩, p3, p4⟩, hbd⟩ := x
      have hbd' : (0 ≤ p1 ∧ p1 ≤ p2 ∧ p2 ≤ 1000000000) ∧ (0 ≤ p3 ∧ p3 ≤ p4 ∧ p4 ≤ 1000000000) := by unfold bdB at hbd; simpa using hbd
      obtain ⟨x0, x1, x2, x3⟩ := boxPt_cells bX
      simp only at x0 x1 x2 x3 ⊢
      have hc := hu.cell
      have zO := hu.lt
      have zB := lt_of_cell x0
      have hS0 : (fun w' : World => w'.cell? ⟨O, 0, none⟩ = some u ∧ w'.cell? ⟨Bx, 0, none⟩ = some (.int .i64 p1) ∧ w'.cell? ⟨Bx, 1, none⟩ = some (.int .i64 p2) ∧ w'.cell? ⟨Bx, 2, none⟩ = some (.int .i64 p3) ∧ w'.cell? ⟨Bx, 3, none⟩ = some (.int .i64 p4)) W.drew := ⟨hc, x0, x1, x2, x3⟩
      have hpl : (pre.map (fun x : BP => reflP x.1.2)).length ≤ 100000 := by rw [List.length_map]; omega
      have HRow := Lib.hid (show OwP (O + 2) 41 W u (pre.map (fun x : BP => reflP x.1.2)) from hrow)
      have HU := Lib.hid hu
      clear hrow bX hc x0 x1 x2 x3 hu
      refine wpIn_block ?_
      refine wpIn_region_HT (S := fun w' => w'.cell? ⟨O, 0, none⟩ = some u ∧ w'.cell? ⟨Bx, 0, none⟩ = some (.int .i64 p1) ∧ w'.cell? ⟨Bx, 1, none⟩ = some (.int .i64 p2) ∧ w'.cell? ⟨Bx, 2, none⟩ = some (.int .i64 p3) ∧ w'.cell? ⟨Bx, 3, none⟩ = some (.int .i64 p4)) 9 l _ (by kernel_rfl) (by kernel_rfl) (by kernel_rfl) (by rintro ⟨a, w, h⟩; exact h) ?_
      refine HT.take' (i := 0) (v := ?_) rfl (by kernel_rfl) (by decide) (by kernel_rfl) (by kernel_rfl) (fun _ _ _ h => h) (by rfl) (fun w' hS => ?_) hS0 ?_
      rotate_left
      focus
        obtain ⟨y0, y1, y2, y3, y4⟩ := hS
        go_simp
        try with_reducible rfl
        done
      simp only [Act.put, List.setIfInBounds_toArray, List.set_cons_zero, List.set_cons_succ]
      refine HT.take' (i := 1) (v := ?_) rfl (by kernel_rfl) (by decide) (by kernel_rfl) (by kernel_rfl) (fun _ _ _ h => h) (by rfl) (fun w' hS => ?_) hS0 ?_
      rotate_left
      focus
        obtain ⟨y0, y1, y2, y3, y4⟩ := hS
        go_simp
        try with_reducible rfl
        done
      simp only [Act.put, List.setIfInBounds_toArray, List.set_cons_zero, List.set_cons_succ]
      refine HT.take' (i := 2) (v := ?_) rfl (by kernel_rfl) (by decide) (by kernel_rfl) (by kernel_rfl) (fun _ _ _ h => h) (by rfl) (fun w' hS => ?_) hS0 ?_
      rotate_left
      focus
        obtain ⟨y0, y1, y2, y3, y4⟩ := hS
        go_simp
        try with_reducible rfl
        done
      simp only [Act.put, List.setIfInBounds_toArray, List.set_cons_zero, List.set_cons_succ]
      refine HT.take' (i := 4) (v := ?_) rfl (by kernel_rfl) (by decide) (by kernel_rfl) (by kernel_rfl) (fun _ _ _ h => h) (by rfl) (fun w' hS => ?_) hS0 ?_
      rotate_left
      focus
        obtain ⟨y0, y1, y2, y3, y4⟩ := hS
        go_simp
        try with_reducible rfl
        done
      simp only [Act.put, List.setIfInBounds_toArray, List.set_cons_zero, List.set_cons_succ]
      refine HT.take' (i := 5) (v := ?_) rfl (by kernel_rfl) (by decide) (by kernel_rfl) (by kernel_rfl) (fun _ _ _ h => h) (by rfl) (fun w' hS => ?_) hS0 ?_
      rotate_left
      focus
        obtain ⟨y0, y1, y2, y3, y4⟩ := hS
        go_simp
        try with_reducible rfl
        done
      simp only [Act.put, List.setIfInBounds_toArray, List.set_cons_zero, List.set_cons_succ]
      refine HT.one' (i := 3) rfl (by decide) (by kernel_rfl) (fun K hK => ?_)
      go_simp
      refine (opposite_is p1 p2 hbd'.1 _).mono ?_
      rintro e v1 ⟨rfl, hb1⟩
      have hX1 : Below W.heap.size W v1 := nextX (by go_grown) hb1
      go_wp2_with fail
      have hS1 : (fun w' : World => w'.cell? ⟨O, 0, none⟩ = some u ∧ w'.cell? ⟨Bx, 0, none⟩ = some (.int .i64 p1) ∧ w'.cell? ⟨Bx, 1, none⟩ = some (.int .i64 p2) ∧ w'.cell? ⟨Bx, 2, none⟩ = some (.int .i64 p3) ∧ w'.cell? ⟨Bx, 3, none⟩ = some (.int .i64 p4)) v1 := ⟨cellB hX1 hS0.1, cellB hX1 hS0.2.1, cellB hX1 hS0.2.2.1, cellB hX1 hS0.2.2.2.1, cellB hX1 hS0.2.2.2.2⟩
      refine hK _ _ hS1 ?_
      clear hK
      try simp only [Act.put, List.setIfInBounds_toArray, List.set_cons_zero, List.set_cons_succ]
      refine HT.one' (i := 6) rfl (by decide) (by kernel_rfl) (fun K hK => ?_)
      go_simp
      refine (opposite_is p3 p4 hbd'.2 _).mono ?_
      rintro e v2 ⟨rfl, hb2⟩
      have hX2 : Below v1.heap.size v1 v2 := nextX (by go_grown) hb2
      go_wp2_with fail
      have hS2 : (fun w' : World => w'.cell? ⟨O, 0, none⟩ = some u ∧ w'.cell? ⟨Bx, 0, none⟩ = some (.int .i64 p1) ∧ w'.cell? ⟨Bx, 1, none⟩ = some (.int .i64 p2) ∧ w'.cell? ⟨Bx, 2, none⟩ = some (.int .i64 p3) ∧ w'.cell? ⟨Bx, 3, none⟩ = some (.int .i64 p4)) v2 := ⟨cellB hX2 hS1.1, cellB hX2 hS1.2.1, cellB hX2 hS1.2.2.1, cellB hX2 hS1.2.2.2.1, cellB hX2 hS1.2.2.2.2⟩
      refine hK _ _ hS2 ?_
      clear hK
      try simp only [Act.put, List.setIfInBounds_toArray, List.set_cons_zero, List.set_cons_succ]
      refine HT.take' (i := 7) (v := ?_) rfl (by kernel_rfl) (by decide) (by kernel_rfl) (by kernel_rfl) (fun _ _ _ h => h) (by rfl) (fun w' hS => ?_) hS2 ?_
      rotate_left
      focus
        obtain ⟨y0, y1, y2, y3, y4⟩ := hS
        go_simp
        try with_reducible rfl
        done
      simp only [Act.put, List.setIfInBounds_toArray, List.set_cons_zero, List.set_cons_succ]
      refine HT.one' (i := 8) rfl (by decide) (by kernel_rfl) (fun K hK => ?_)
      go_simp
      refine hK _ _ ⟨cellA _ hS2.1, cellA _ hS2.2.1, cellA _ hS2.2.2.1, cellA _ hS2.2.2.2.1, cellA _ hS2.2.2.2.2⟩ ?_
      clear hK
      try simp only [Act.put, List.setIfInBounds_toArray, List.set_cons_zero, List.set_cons_succ]
      refine HT.done (by kernel_rfl) ?_
      simp only [List.drop_succ_cons, List.drop_zero]
      have hX := nextX hX1 hX2
      have hzX := hX.size
      go_wp2_with (at_builtin; refine append_pg _ rfl _ _ rfl (O + 2) _ (pre.map (fun x : BP => reflP x.1.2)) rfl ?own _ _ (p2 - p1) p2 (p4 - p3) p4 rfl ?c0 ?c1 ?c2 ?c3 ?len ?base ?_)
      case own => exact (HRow.out.keep (nextX hX (by go_grown)))
      case len => omega
      case base => first | omega | go_size
      intro v' w' hown h7 h8
      obtain ⟨g', cap', rfl⟩ : ∃ g' cap', v' = .slice (some ⟨g', 0, none⟩) ((pre.map (fun x : BP => reflP x.1.2)).length + 1) cap' := by
        rcases hown.2 with ⟨-, h0⟩ | ⟨g', cap', cur, hv', -⟩
        · simp at h0
        · exact ⟨g', cap', by rw [hv', List.length_append]; rfl⟩
      have hX3 : Below W.heap.size W _ := nextX hX ((Below.refl v2.heap.size v2).alloc (Nat.le_refl _) (.cells #[.int .i64 (p2 - p1), .int .i64 p2, .int .i64 (p4 - p3), .int .i64 p4] 41))
      have hu3 := boxedB (boxedB HU.out hX3 zO) h7 (by omega)
      have s0 := hu3.cell
      have s1 := hu3.frozen
      go_wp2_with fail
      refine ⟨((keepsFrom_below hX3).trans (h8 _)).trans ((KeepsOthers.setCell _ _ _).from _), ((KpO.of_below (hX3.mono h2)).t (KpO.of_below h7)).t (KpO.set _ _), ⟨_, hu3.set _, ?_⟩, ?_, ?_⟩
      · have hk := World.ownsRow.kept hown (grownBy_setCell' w' O (.slice (some ⟨g', 0, none⟩) ((pre.map (fun x : BP => reflP x.1.2)).length + 1) cap')) (by
          refine .inr (fun e => ?_)
          have h9 := (World.ownsRow.lt hown g' rfl).1
          simp only [Value.ownBlock, Option.some.injEq] at e
          omega)
        simpa [reflP, mirQ] using hk
      · exact Nat.le_trans h2 (Nat.le_trans hX3.size (Nat.le_trans h7.size (KpO.set (O := O) (n₀ := 0) _ _).size))
      · exact ((hB.trans (hX3.mono hB.size)).trans (h7.mono (by omega))).setCell (p := ⟨O, 0, none⟩) (by show w.heap.size ≤ O; omega) _
    case done =>
      rintro D ys W hD rfl ⟨⟨u, hu, hrow, -⟩, h2, hB⟩ hK
      have hc := hu.cell
      gi_wp2
      refine ⟨by simp, .inl ⟨_, _, rfl, run_takeDeferred hK, ?_⟩⟩
      rw [HAll.out] at hrow
      exact ⟨.tuple #[u, .bool true], by simp [results, Tryz.results7, go_sem], u, rfl, ownsRow_low (ownsRow_putObj hrow _ hK rfl) (by omega), hB.trans (belowK_b (w := w) (Nat.le_refl _) W D _ _ (by omega) hK rfl rfl)⟩
    case stop =>
      rintro D c9 pre W _ _ h _
      exact h.elim

end Go.Proofs.YtkeajfgcjmhmiaaGreatDoor
