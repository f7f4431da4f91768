/- Fractions in increasing order, each once: plain laws. · Appending a slice of fractions that may be nil or empty. · The laws' own marks: markPointS, markRatS, heldRatS, heldPointS, eqRatS; rows that lie apart. · The laws' own marks: markRatS, markPointS, heldRatS, heldPointS. · Places and periods: slices.Index, orAt, periodIn, orPeriod, PeriodOf of both. -/
import Derived.Test.YtkeajfgcjmhmiaaGreatJ9
import Derived.Test.YtkeajfgcjmhmiaaGreatJ2
import Derived.Test.YtkeajfgcjmhmiaaGreatJ3
namespace Go.Proofs.YtkeajfgcjmhmiaaGreat
open Go.RowKit

def OkL (l : List Q) : Prop := ∀ q ∈ l, okQ q.1 q.2 = true
def UpQ (l : List Q) : Prop := l.Pairwise (fun p q => toR p < toR q)
/-- A fraction put in its place, once. -/
def insQ (x : Q) : List Q → List Q
  | [] => [x]
  | y :: r => if lessQ y.1 y.2 x.1 x.2 = true then y :: insQ x r else if y = x then y :: r else x :: y :: r
theorem insQ_mem (x : Q) : ∀ (l : List Q) (y : Q), y ∈ insQ x l ↔ y = x ∨ y ∈ l
  | [], y => by simp [insQ]
  | z :: r, y => by
    unfold insQ
    split
    · rw [List.mem_cons, List.mem_cons, insQ_mem x r y]
      exact ⟨fun h => by rcases h with h | h | h <;> simp [h], fun h => by rcases h with h | h | h <;> simp [h]⟩
    · split
      · rename_i h; subst h
        simp
      · simp
theorem insQ_ok {x : Q} {l : List Q} (hx : okQ x.1 x.2 = true) (hl : OkL l) : OkL (insQ x l) := fun y hy => by
  rcases (insQ_mem x l y).1 hy with rfl | h
  · exact hx
  · exact hl y h
theorem insQ_up {x : Q} (hx : okQ x.1 x.2 = true) : ∀ {l : List Q}, OkL l → UpQ l → UpQ (insQ x l)
  | [], _, _ => List.pairwise_singleton _ _
  | y :: r, hl, hu => by
    have hy := hl y List.mem_cons_self
    have hr : OkL r := fun q hq => hl q (List.mem_cons_of_mem _ hq)
    unfold UpQ at hu
    rw [List.pairwise_cons] at hu
    have li := lessQ_iff (n1 := y.1) (n2 := x.1) (okQ_bd hy).1 (okQ_bd hx).1
    unfold insQ UpQ
    split
    · rename_i h
      rw [List.pairwise_cons]
      refine ⟨fun z hz => ?_, insQ_up hx hr hu.2⟩
      rcases (insQ_mem x r z).1 hz with rfl | h2
      · exact li.1 h
      · exact hu.1 z h2
    · rename_i h
      split
      · rw [List.pairwise_cons]; exact hu
      · rename_i hne
        have hlt : toR x < toR y := by
          have h1 : ¬ toR y < toR x := fun h2 => h (li.2 h2)
          have h2 : toR x ≠ toR y := fun h3 => hne (toR_inj hy hx h3.symm)
          grind
        rw [List.pairwise_cons, List.pairwise_cons]
        refine ⟨fun z hz => ?_, hu⟩
        rcases List.mem_cons.1 hz with rfl | h2
        · exact hlt
        · exact Std.lt_trans hlt (hu.1 z h2)
theorem insQ_skip {x : Q} : ∀ {l : List Q} {k : Nat}, (∀ i y, i < k → l[i]? = some y → lessQ y.1 y.2 x.1 x.2 = true) → insQ x l = l.take k ++ insQ x (l.drop k)
  | _, 0, _ => by simp
  | [], k + 1, _ => by simp
  | y :: r, k + 1, h => by
    have h0 := h 0 y (by omega) rfl
    rw [List.take_succ_cons, List.drop_succ_cons, List.cons_append, ← insQ_skip (k := k) (fun i z hi hz => h (i + 1) z (by omega) (by simpa using hz))]
    conv => lhs; unfold insQ
    rw [if_pos h0]
theorem insQ_end {x : Q} {l : List Q} (h : ∀ i y, i < l.length → l[i]? = some y → lessQ y.1 y.2 x.1 x.2 = true) : insQ x l = l ++ [x] := by
  rw [insQ_skip h, List.take_length, List.drop_length]; rfl
theorem insQ_have {x y : Q} {l : List Q} {k : Nat} (h : ∀ i y, i < k → l[i]? = some y → lessQ y.1 y.2 x.1 x.2 = true) (hk : l[k]? = some y) (hn : lessQ y.1 y.2 x.1 x.2 = false) (he : y = x) : insQ x l = l := by
  obtain ⟨h1, h2⟩ := List.getElem?_eq_some_iff.1 hk
  rw [insQ_skip h, List.drop_eq_getElem_cons h1, h2]
  unfold insQ
  rw [if_neg (by rw [hn]; simp), if_pos he]
  rw [← h2, ← List.drop_eq_getElem_cons h1, List.take_append_drop]
theorem insQ_put {x y : Q} {l : List Q} {k : Nat} (h : ∀ i y, i < k → l[i]? = some y → lessQ y.1 y.2 x.1 x.2 = true) (hk : l[k]? = some y) (hn : lessQ y.1 y.2 x.1 x.2 = false) (he : y ≠ x) : insQ x l = l.take k ++ x :: l.drop k := by
  obtain ⟨h1, h2⟩ := List.getElem?_eq_some_iff.1 hk
  rw [insQ_skip h, List.drop_eq_getElem_cons h1, h2]
  conv => lhs; arg 2; unfold insQ
  rw [if_neg (by rw [hn]; simp), if_neg he]

theorem up_uniq : ∀ {l r : List Q}, UpQ l → UpQ r → (∀ x, x ∈ l ↔ x ∈ r) → l = r
  | [], [], _, _, _ => rfl
  | [], y :: r, _, _, h => by have := (h y).2 List.mem_cons_self; simp at this
  | x :: l, [], _, _, h => by have := (h x).1 List.mem_cons_self; simp at this
  | x :: l, y :: r, hl, hr, h => by
    unfold UpQ at hl hr
    rw [List.pairwise_cons] at hl hr
    have hxy : x = y := by
      rcases List.mem_cons.1 ((h x).1 List.mem_cons_self) with h1 | h1
      · exact h1
      · rcases List.mem_cons.1 ((h y).2 List.mem_cons_self) with h2 | h2
        · exact h2.symm
        · exact absurd (Std.lt_trans (hl.1 y h2) (hr.1 x h1)) (by grind)
    subst hxy
    congr 1
    refine up_uniq hl.2 hr.2 (fun z => ⟨fun hz => ?_, fun hz => ?_⟩)
    · rcases List.mem_cons.1 ((h z).1 (List.mem_cons_of_mem _ hz)) with h1 | h1
      · subst h1; exact absurd (hl.1 z hz) (by grind)
      · exact h1
    · rcases List.mem_cons.1 ((h z).2 (List.mem_cons_of_mem _ hz)) with h1 | h1
      · subst h1; exact absurd (hr.1 z hz) (by grind)
      · exact h1

/-- Fractions in increasing order, each once. -/
def setQ (qs : List Q) : List Q := qs.foldl (fun l x => insQ x l) []
theorem foldQ_mem : ∀ (qs l : List Q) (x : Q), x ∈ qs.foldl (fun l x => insQ x l) l ↔ x ∈ l ∨ x ∈ qs
  | [], l, x => by simp
  | q :: qs, l, x => by
    rw [List.foldl_cons, foldQ_mem qs _ x, insQ_mem, List.mem_cons]
    exact ⟨fun h => by rcases h with (h | h) | h <;> simp [h], fun h => by rcases h with h | h | h <;> simp [h]⟩
theorem foldQ_up : ∀ {qs l : List Q}, OkL qs → OkL l → UpQ l → UpQ (qs.foldl (fun l x => insQ x l) l)
  | [], _, _, _, h => h
  | q :: qs, _, h1, h2, h3 => foldQ_up (qs := qs) (fun p hp => h1 p (List.mem_cons_of_mem _ hp)) (insQ_ok (h1 q List.mem_cons_self) h2) (insQ_up (h1 q List.mem_cons_self) h2 h3)
theorem setQ_mem (qs : List Q) (x : Q) : x ∈ setQ qs ↔ x ∈ qs := by unfold setQ; rw [foldQ_mem]; simp
theorem setQ_up {qs : List Q} (h : OkL qs) : UpQ (setQ qs) := foldQ_up h (fun q hq => by simp at hq) List.Pairwise.nil
theorem setQ_of {qs r : List Q} (h : OkL qs) (hu : UpQ r) (hm : ∀ x, x ∈ r ↔ x ∈ qs) : r = setQ qs := up_uniq hu (setQ_up h) (fun x => by rw [hm, setQ_mem])
theorem insQ_len (x : Q) : ∀ l : List Q, (insQ x l).length ≤ l.length + 1
  | [] => Nat.le_refl _
  | y :: r => by
    have := insQ_len x r
    unfold insQ
    split
    · simp; omega
    · split <;> simp
theorem foldQ_len : ∀ (qs l : List Q), (qs.foldl (fun l x => insQ x l) l).length ≤ l.length + qs.length
  | [], l => by simp
  | q :: qs, l => by
    have h1 := foldQ_len qs (insQ q l)
    have h2 := insQ_len q l
    rw [List.foldl_cons, List.length_cons]
    omega
theorem setQ_len (qs : List Q) : (setQ qs).length ≤ qs.length := by
  have := foldQ_len qs []
  unfold setQ
  simpa using this

/-- Equal neighbours once: what slices.Compact leaves. -/
def compQ : List Q → List Q
  | [] => []
  | x :: l => match compQ l with
    | [] => [x]
    | y :: r => if x = y then y :: r else x :: y :: r
theorem compQ_mem : ∀ (l : List Q) (x : Q), x ∈ compQ l ↔ x ∈ l
  | [], x => by simp [compQ]
  | y :: l, x => by
    have ih := compQ_mem l x
    unfold compQ
    rcases h : compQ l with _ | ⟨z, r⟩
    · rw [h] at ih; simp at ih; simp [ih]
    · rw [h] at ih
      simp only
      split
      · rename_i e; subst e
        rw [ih, List.mem_cons]
        refine ⟨fun h => .inr h, fun h => ?_⟩
        rcases h with rfl | h
        · exact ih.1 List.mem_cons_self
        · exact h
      · rw [List.mem_cons, ih, List.mem_cons]
theorem compQ_up : ∀ {l : List Q}, OkL l → l.Pairwise (fun p q => toR p ≤ toR q) → UpQ (compQ l)
  | [], _, _ => List.Pairwise.nil
  | x :: l, ho, h => by
    rw [List.pairwise_cons] at h
    have ih := compQ_up (fun q hq => ho q (List.mem_cons_of_mem _ hq)) h.2
    unfold compQ
    rcases hc : compQ l with _ | ⟨y, r⟩
    · exact List.pairwise_singleton _ _
    · rw [hc] at ih
      simp only
      split
      · exact ih
      · rename_i hne
        unfold UpQ at ih ⊢
        rw [List.pairwise_cons]
        refine ⟨fun z hz => ?_, ih⟩
        have hy : y ∈ l := (compQ_mem l y).1 (by rw [hc]; exact List.mem_cons_self)
        have h1 := h.1 y hy
        have h2 : toR x ≠ toR y := fun e => hne (toR_inj (ho x List.mem_cons_self) (ho y (List.mem_cons_of_mem _ hy)) e)
        rw [List.pairwise_cons] at ih
        rcases List.mem_cons.1 hz with rfl | h3
        · grind
        · have := ih.1 z h3
          grind

end Go.Proofs.YtkeajfgcjmhmiaaGreat

namespace Go.Proofs.YtkeajfgcjmhmiaaGreat
open Go.RowKit

theorem run_append_nil {P : Program} (w : World) (t ty e : TypeId) (i : TypeInfo) (ht : P.underlying t = some (.slice e)) (hi : P.info? e = some i) (A : Option Addr) (n cap c : Nat) (h : n ≤ cap) :
    (Builtin.append_ #[t, t] ty #[.slice A n cap, .slice none 0 c]).run P w = .ok (.slice A n cap) w := by
  cases A <;> simp [Builtin.append_, run_underlying ht, Builtin.lenOf, Builtin.firstCells, sizeOf, typeInfo, hi, h, storeCells]

theorem wp_append_rdg {o : Oper} {a : Act} {K : Act → World → Prop} {Q' : Exit → Act → World → Prop} (w : World) (s x : Operand)
    (ho : o.op = .call { callee := .builtin .append, args := #[s, x], argTypes := #[43, 43] })
    (base : Nat) (v u : Value) (qs ns : List Q) (hs : a.eval s = v) (hown : OwQ base 31 w v qs) (hx : a.eval x = u) (hu : RdQ w u ns)
    (hlen : qs.length + ns.length ≤ 1000000) (hbase : base ≤ w.heap.size)
    (h : ∀ v' w', OwQ base 31 w' v' (qs ++ ns) → Below base w w' → w.grownBy w' v.ownBlock → K (a.put o.dst v') w') : o.wp Tryz.prog a w K Q' := by
  obtain ⟨i, hi, hz, hsz, hb⟩ := info_parts Tryz.infoQ
  obtain ⟨A, c, rfl, hl, hm, hc⟩ := hu
  rcases A with _ | ⟨g, off, sp⟩
  · by_cases hn : ns = []
    · subst hn
      obtain ⟨A, n, cap, rfl, hle⟩ : ∃ A n cap, v = .slice A n cap ∧ n ≤ cap := by
        rcases hown.2 with ⟨rfl, -⟩ | ⟨g, cap, cur, rfl, _, _, hle, _⟩
        · exact ⟨_, _, _, rfl, Nat.le_refl _⟩
        · exact ⟨_, _, _, rfl, hle⟩
      have hr := run_append_nil (P := Tryz.prog) w 43 o.type 31 i Tryz.underlying43 hi A n cap c hle
      unfold Oper.wp execOp
      simp only [List.length_nil] at hx
      simp only [ho, resolve, invoke, builtin, Sem.run_bind, Sem.run_pure, Result.andThen_ok, List.map_toArray, List.map_cons, List.map_nil, hs, hx, hr]
      exact h _ w (by rw [List.append_nil]; exact hown) (Below.refl _ _) (World.grownBy.refl _ _)
    · obtain ⟨g, o, e, -⟩ := hc hn
      simp at e
  · by_cases hn : ns = []
    · subst hn
      refine wp_append_own w s x 43 ho base 31 i _ 2 16 Tryz.underlying43 hi hz hsz hb rfl (by decide) v qs.length (rowQ qs) hs hown _ 0 c [] hx rfl (fun j u hj => by simp at hj) (fun u hu => by simp at hu) (by simp at hlen; unfold maxLen; omega) (by simp at hlen; omega) hbase ?_
      intro v' w' h1 h2 _
      refine h v' w' ?_ ((Below.refl _ _).grown h2 hbase (fun k hk => (hown.lt k hk).1)) h2
      unfold OwQ; rw [List.length_append, rowQ_app]; exact h1
    · obtain ⟨g', o', e, hg, hcell⟩ := hc hn
      simp only [Option.some.injEq, Addr.mk.injEq] at e
      obtain ⟨rfl, rfl, rfl⟩ := e
      have hcells : ∀ j u, (rowQ ns)[j]? = some u → w.cell? ((⟨g, off, none⟩ : Addr).add j) = some u := by
        intro j u hj
        have hjl : j < ns.length * 2 := by rw [← rowQ_len]; exact (List.getElem?_eq_some_iff.1 hj).1
        have hi2 : j / 2 < ns.length := by omega
        obtain ⟨b0, b1⟩ := rowQ_get ns (j / 2) _ (List.getElem?_eq_getElem hi2)
        obtain ⟨d0, d1⟩ := hcell (j / 2) _ (List.getElem?_eq_getElem hi2)
        have hadd : (⟨g, off, none⟩ : Addr).add j = ⟨g, off + j, none⟩ := by unfold Addr.add; split <;> simp_all
        rw [hadd]
        rcases Nat.mod_two_eq_zero_or_one j with e | e
        · have e2 : j = j / 2 * 2 := by omega
          rw [e2] at hj ⊢
          rw [b0] at hj; cases hj; exact d0
        · have e2 : j = j / 2 * 2 + 1 := by omega
          rw [e2] at hj ⊢
          rw [b1] at hj; cases hj; exact d1
      have hone : ∀ u ∈ rowQ ns, u.oneCell' = true := by
        intro u hu
        simp only [rowQ, List.mem_flatMap] at hu
        obtain ⟨q, _, hq⟩ := hu
        simp at hq
        rcases hq with rfl | rfl <;> rfl
      refine wp_append_own w s x 43 ho base 31 i _ 2 16 Tryz.underlying43 hi hz hsz hb rfl (by decide) v qs.length (rowQ qs) hs hown ⟨g, off, none⟩ ns.length c (rowQ ns) hx (rowQ_len _) hcells hone (by unfold maxLen; omega) (by omega) hbase ?_
      intro v' w' h1 h2 _
      refine h v' w' ?_ ((Below.refl _ _).grown h2 hbase (fun k hk => (hown.lt k hk).1)) h2
      unfold OwQ; rw [List.length_append, rowQ_app]; exact h1

theorem wp_append_rd {o : Oper} {a : Act} {K : Act → World → Prop} {Q' : Exit → Act → World → Prop} (w : World) (s x : Operand)
    (ho : o.op = .call { callee := .builtin .append, args := #[s, x], argTypes := #[43, 43] })
    (base : Nat) (v u : Value) (qs ns : List Q) (hs : a.eval s = v) (hown : OwQ base 31 w v qs) (hx : a.eval x = u) (hu : RdQ w u ns)
    (hlen : qs.length + ns.length ≤ 1000000) (hbase : base ≤ w.heap.size)
    (h : ∀ v' w', OwQ base 31 w' v' (qs ++ ns) → Below base w w' → K (a.put o.dst v') w') : o.wp Tryz.prog a w K Q' :=
  wp_append_rdg w s x ho base v u qs ns hs hown hx hu hlen hbase fun v' w' h1 h2 _ => h v' w' h1 h2

theorem step_append_rdg {ops : Array Oper} {o : Oper} {a : Act} {K : Act → World → Prop} {Q' : Exit → Act → World → Prop} {E : Prop} (w : World) (hgd : o.guard = none) (s x : Operand)
    (ho : o.op = .call { callee := .builtin .append, args := #[s, x], argTypes := #[43, 43] })
    (base : Nat) (v u : Value) (qs ns : List Q) (hs : a.eval s = v) (hown : OwQ base 31 w v qs) (hx : a.eval x = u) (hu : RdQ w u ns)
    (hlen : qs.length + ns.length ≤ 1000000) (hbase : base ≤ w.heap.size)
    (h : ∀ v' w', OwQ base 31 w' v' (qs ++ ns) → Below base w w' → w.grownBy w' v.ownBlock → K (a.put o.dst v') w') :
    if Region.wanted o (yielded ops a.tmps) = true then Oper.wp Tryz.prog o a w K Q' else E := by
  rw [if_pos (show Region.wanted o (yielded ops a.tmps) = true by simp [Region.wanted, hgd])]
  exact wp_append_rdg w s x ho base v u qs ns hs hown hx hu hlen hbase h

theorem append_rd {ops : Array Oper} {rest : List Oper} {o : Oper} {a : Act} {K : Exit → Act → World → Prop} (w : World) (hgd : o.guard = none) (s x : Operand)
    (ho : o.op = .call { callee := .builtin .append, args := #[s, x], argTypes := #[43, 43] })
    (base : Nat) (v u : Value) (qs ns : List Q) (hs : a.eval s = v) (hown : OwQ base 31 w v qs) (hx : a.eval x = u) (hu : RdQ w u ns)
    (hlen : qs.length + ns.length ≤ 1000000) (hbase : base ≤ w.heap.size)
    (h : ∀ v' w', OwQ base 31 w' v' (qs ++ ns) → Below base w w' → wpList Tryz.prog ops K rest (a.put o.dst v') w') : wpList Tryz.prog ops K (o :: rest) a w :=
  wpList_plain hgd fun _ hK => wp_append_rd w s x ho base v u qs ns hs hown hx hu hlen hbase fun v' w' h1 h2 => hK _ _ (h v' w' h1 h2)

end Go.Proofs.YtkeajfgcjmhmiaaGreat

namespace Go.Proofs.YtkeajfgcjmhmiaaGreat
open Go.RowKit

/-- Rows in blocks of their own. -/
def Sep (v u : Value) : Prop := ∀ b, v.ownBlock = some b → u.ownBlock ≠ some b
theorem Sep.symm {v u : Value} (h : Sep v u) : Sep u v := fun b h1 h2 => h b h2 h1
end Go.Proofs.YtkeajfgcjmhmiaaGreat

namespace Go.Proofs.YtkeajfgcjmhmiaaGreat
open Go.RowKit

theorem ownsRow_slice {base n size : Nat} {e : TypeId} {w : World} {v : Value} {xs : List Value} (h : w.ownsRow base e size v n xs) : ∃ A cap, v = .slice A n cap ∧ n ≤ cap ∧ cap ≤ maxLen := by
  rcases h.2 with ⟨rfl, rfl⟩ | ⟨g, cap, cur, rfl, hb, hh, hle, hm, -, -⟩
  · exact ⟨none, 0, rfl, Nat.le_refl _, Nat.zero_le _⟩
  · exact ⟨_, _, rfl, hle, hm⟩
end Go.Proofs.YtkeajfgcjmhmiaaGreat

namespace Go.Proofs.YtkeajfgcjmhmiaaGreat
open Go.RowKit

def NoneQ (l : List Q) (x : Q) (k : Nat) : Prop := ∀ i y, i < k → l[i]? = some y → y ≠ x
theorem NoneQ.more {l : List Q} {x y : Q} {k : Nat} (h : NoneQ l x k) (hy : l[k]? = some y) (hn : y ≠ x) : NoneQ l x (k + 1) := by
  intro i z hi hz
  by_cases e : i = k
  · subst e; rw [hy] at hz; cases hz; exact hn
  · exact h i z (by omega) hz
theorem NoneQ.found {l : List Q} {x : Q} {k : Nat} (h : NoneQ l x k) (hy : l[k]? = some x) : idxQ l x = k := by
  obtain ⟨hk, he⟩ := List.getElem?_eq_some_iff.1 hy
  have : l.findIdx? (fun y => decide (y = x)) = some k := by
    rw [List.findIdx?_eq_some_iff_getElem]
    refine ⟨hk, by simp [he], fun j hj => ?_⟩
    have := h j l[j] hj (List.getElem?_eq_getElem (by omega))
    simpa using this
  unfold idxQ; rw [this]
theorem NoneQ.none {l : List Q} {x : Q} (h : NoneQ l x l.length) : idxQ l x = -1 := by
  have : l.findIdx? (fun y => decide (y = x)) = Option.none := by
    rw [List.findIdx?_eq_none_iff]
    intro y hy
    obtain ⟨i, hi, rfl⟩ := List.getElem_of_mem hy
    simpa using h i _ hi (List.getElem?_eq_getElem hi)
  unfold idxQ; rw [this]
theorem q_or {a1 a2 b1 b2 : Int} (h : ((a1, a2) : Q) ≠ (b1, b2)) : (((a1 : Int) == b1) = false) ∨ (((a1 : Int) == b1) = true ∧ ((a2 : Int) == b2) = false) := by
  rcases h1 : ((a1 : Int) == b1) with _ | _
  · exact .inl rfl
  · rcases h2 : ((a2 : Int) == b2) with _ | _
    · exact .inr ⟨rfl, rfl⟩
    · exact absurd (Prod.ext (by simpa using h1) (by simpa using h2)) h
theorem RdQ.take {w : World} {A : Option Addr} {n c : Nat} {l : List Q} (h : RdQ w (.slice A n c) l) (j : Nat) (hj : j ≤ n) : RdQ w (.slice A j c) (l.take j) := by
  obtain ⟨A', c', he, h1, h2, h3⟩ := h
  simp only [Value.slice.injEq] at he
  obtain ⟨rfl, rfl, rfl⟩ := he
  have hl : (l.take j).length = j := by rw [List.length_take]; omega
  refine ⟨A, c, by rw [hl], by rw [hl]; omega, h2, fun hn => ?_⟩
  obtain ⟨g, o, rfl, hg, hc⟩ := h3 (by rintro rfl; simp at hn)
  refine ⟨g, o, rfl, hg, fun i q hq => hc i q ?_⟩
  rw [List.getElem?_take] at hq
  split at hq
  · exact hq
  · cases hq

end Go.Proofs.YtkeajfgcjmhmiaaGreat
