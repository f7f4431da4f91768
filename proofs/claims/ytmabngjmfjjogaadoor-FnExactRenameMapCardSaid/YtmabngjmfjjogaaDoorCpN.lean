/- Rows of named maps: copies of points, append of a named map; copyNamed of the program, laOwn and laWithout of the reference. -/
import Derived.Test.YtmabngjmfjjogaaDoorOrd
namespace Go.Proofs.YtmabngjmfjjogaaDoor
open Go.RowKit

theorem OwP.grownM {b : Nat} {e : TypeId} {w w' : World} {m v : Value} {ps : List Pt} (h : OwP b e w m ps) (hg : w.grownBy w' v.ownBlock) (hs : Sep v m) : OwP b e w' m ps := by
  rcases hv : v.ownBlock with _ | g
  · rw [hv] at hg
    exact h.keepU (But.of_grown (g := w.heap.size) hg (.inl rfl)) (fun hh => by have := (World.ownsRow.lt h _ hh).2; omega)
  · rw [hv] at hg
    exact h.keepU (But.of_grown hg (.inr rfl)) (hs g hv)
theorem OwM.grownM {b : Nat} {w w' : World} {v : Value} {ns : List Nm} {ms : List Value} (h : OwM b w ns ms) (hg : w.grownBy w' v.ownBlock) (hs : ∀ m ∈ ms, Sep v m) : OwM b w' ns ms :=
  ⟨h.1, fun i n m hn hm => (h.2.1 i n m hn hm).grownM hg (hs m (List.mem_of_getElem? hm)), h.2.2⟩
theorem OwN.apart {base n : Nat} {w : World} {v : Value} {ns : List Nm} {ms : List Value} {xs : List Value} (h : w.ownsRow base 89 2 v n xs) (hm : OwM base w ns ms) : ∀ m ∈ ms, Sep v m := by
  intro m hmm
  obtain ⟨i, hi⟩ := List.getElem?_of_mem hmm
  have hil : i < ns.length := by have := (List.getElem?_eq_some_iff.1 hi).1; have := hm.1; omega
  exact sep_of h (hm.2.1 i _ m (List.getElem?_eq_getElem hil) hi) (by decide)

theorem append_pts {ops : Array Oper} {rest : List Oper} {o : Oper} {a : Act} {K : Exit → Act → World → Prop} (w : World) (hgd : o.guard = none) (s x : Operand)
    (ho : o.op = .call { callee := .builtin .append, args := #[s, x], argTypes := #[32, 32] })
    (base : Nat) (v : Value) (ps : List Pt) (hs : a.eval s = v) (hown : OwP base 74 w v ps)
    (u : Value) (qs : List Pt) (hx : a.eval x = u) (hu : RdP w u qs) (hne : qs ≠ [])
    (hlen : ps.length + qs.length ≤ 1000000) (hbase : base ≤ w.heap.size)
    (h : ∀ v' w', OwP base 74 w' v' (ps ++ qs) → Below base w w' → wpList Tryd.prog ops K rest (a.put o.dst v') w') : wpList Tryd.prog ops K (o :: rest) a w := by
  obtain ⟨i, hi, hz, hsz, hb⟩ := info_parts Tryd.infoPa
  obtain ⟨A, c, rfl, h1, h2, h3⟩ := hu
  obtain ⟨g, off, rfl, hg, hc⟩ := h3 hne
  have hcell : ∀ j u, (rowP qs)[j]? = some u → w.cell? ((⟨g, off, none⟩ : Addr).add j) = some u := by
    intro j u hj
    have hjl : j < qs.length * 4 := by rw [← rowP_len]; exact (List.getElem?_eq_some_iff.1 hj).1
    have hi2 : j / 4 < qs.length := by omega
    obtain ⟨b0, b1, b2, b3⟩ := rowP_get qs (j / 4) _ (List.getElem?_eq_getElem hi2)
    obtain ⟨d0, d1, d2, d3⟩ := hc (j / 4) _ (List.getElem?_eq_getElem hi2)
    have hadd : (⟨g, off, none⟩ : Addr).add j = ⟨g, off + j, none⟩ := by unfold Addr.add; split <;> simp_all
    rw [hadd]
    have h4 : j % 4 = 0 ∨ j % 4 = 1 ∨ j % 4 = 2 ∨ j % 4 = 3 := by omega
    rcases h4 with e | e | e | e
    · have e2 : j = j / 4 * 4 := by omega
      rw [e2] at hj ⊢
      rw [b0] at hj; cases hj; exact d0
    · have e2 : j = j / 4 * 4 + 1 := by omega
      rw [e2] at hj ⊢
      rw [b1] at hj; cases hj; exact d1
    · have e2 : j = j / 4 * 4 + 2 := by omega
      rw [e2] at hj ⊢
      rw [b2] at hj; cases hj; exact d2
    · have e2 : j = j / 4 * 4 + 3 := by omega
      rw [e2] at hj ⊢
      rw [b3] at hj; cases hj; exact d3
  have hone : ∀ u ∈ rowP qs, u.oneCell' = true := by
    intro u hu
    simp only [rowP, List.mem_flatMap] at hu
    obtain ⟨q, _, hq⟩ := hu
    simp at hq
    rcases hq with rfl | rfl | rfl | rfl <;> rfl
  refine wpList_append_own w hgd s x 32 ho base 74 i _ 4 32 Tryd.underlying32 hi hz hsz hb rfl (by decide) v ps.length (rowP ps) hs hown ⟨g, off, none⟩ qs.length c (rowP qs) hx (rowP_len _) hcell hone (by unfold maxLen; omega) (by omega) hbase ?_
  intro v' w' h1 h2 _
  refine h v' w' ?_ ?_
  · unfold OwP; rw [List.length_append, rowP_app]; exact h1
  · exact (Below.refl _ _).grown h2 hbase (fun k hk => (hown.lt k hk).1)

theorem step_append_pts {ops : Array Oper} {o : Oper} {a : Act} {K : Act → World → Prop} {Q' : Exit → Act → World → Prop} {E : Prop} (w : World) (hgd : o.guard = none) (s x : Operand)
    (ho : o.op = .call { callee := .builtin .append, args := #[s, x], argTypes := #[32, 32] })
    (base : Nat) (v : Value) (ps : List Pt) (hs : a.eval s = v) (hown : OwP base 74 w v ps)
    (u : Value) (qs : List Pt) (hx : a.eval x = u) (hu : RdP w u qs) (hne : qs ≠ [])
    (hlen : ps.length + qs.length ≤ 1000000) (hbase : base ≤ w.heap.size)
    (h : ∀ v' w', OwP base 74 w' v' (ps ++ qs) → Below base w w' → K (a.put o.dst v') w') :
    if Region.wanted o (yielded ops a.tmps) = true then Oper.wp Tryd.prog o a w K Q' else E := by
  obtain ⟨i, hi, hz, hsz, hb⟩ := info_parts Tryd.infoPa
  obtain ⟨A, c, rfl, h1, h2, h3⟩ := hu
  obtain ⟨g, off, rfl, hg, hc⟩ := h3 hne
  have hcell : ∀ j u, (rowP qs)[j]? = some u → w.cell? ((⟨g, off, none⟩ : Addr).add j) = some u := by
    intro j u hj
    have hjl : j < qs.length * 4 := by rw [← rowP_len]; exact (List.getElem?_eq_some_iff.1 hj).1
    have hi2 : j / 4 < qs.length := by omega
    obtain ⟨b0, b1, b2, b3⟩ := rowP_get qs (j / 4) _ (List.getElem?_eq_getElem hi2)
    obtain ⟨d0, d1, d2, d3⟩ := hc (j / 4) _ (List.getElem?_eq_getElem hi2)
    have hadd : (⟨g, off, none⟩ : Addr).add j = ⟨g, off + j, none⟩ := by unfold Addr.add; split <;> simp_all
    rw [hadd]
    have h4 : j % 4 = 0 ∨ j % 4 = 1 ∨ j % 4 = 2 ∨ j % 4 = 3 := by omega
    rcases h4 with e | e | e | e
    · have e2 : j = j / 4 * 4 := by omega
      rw [e2] at hj ⊢
      rw [b0] at hj; cases hj; exact d0
    · have e2 : j = j / 4 * 4 + 1 := by omega
      rw [e2] at hj ⊢
      rw [b1] at hj; cases hj; exact d1
    · have e2 : j = j / 4 * 4 + 2 := by omega
      rw [e2] at hj ⊢
      rw [b2] at hj; cases hj; exact d2
    · have e2 : j = j / 4 * 4 + 3 := by omega
      rw [e2] at hj ⊢
      rw [b3] at hj; cases hj; exact d3
  have hone : ∀ u ∈ rowP qs, u.oneCell' = true := by
    intro u hu
    simp only [rowP, List.mem_flatMap] at hu
    obtain ⟨q, _, hq⟩ := hu
    simp at hq
    rcases hq with rfl | rfl | rfl | rfl <;> rfl
  rw [if_pos (by unfold Region.wanted; rw [hgd])]
  refine wp_append_own w s x 32 ho base 74 i _ 4 32 Tryd.underlying32 hi hz hsz hb rfl (by decide) v ps.length (rowP ps) hs hown ⟨g, off, none⟩ qs.length c (rowP qs) hx (rowP_len _) hcell hone (by unfold maxLen; omega) (by omega) hbase ?_
  intro v' w' h1 h2 _
  refine h v' w' ?_ ?_
  · unfold OwP; rw [List.length_append, rowP_app]; exact h1
  · exact (Below.refl _ _).grown h2 hbase (fun k hk => (hown.lt k hk).1)

theorem append_n {ops : Array Oper} {rest : List Oper} {o : Oper} {a : Act} {K : Exit → Act → World → Prop} (w0 w : World) (hgd : o.guard = none) (s x : Operand)
    (ho : o.op = .call { callee := .builtin .append, args := #[s, x], argTypes := #[46, 46] })
    (base : Nat) (v : Value) (ns : List Nm) (hs : a.eval s = v) (hown : OwN base w0 v ns) (hX : Below w0.heap.size w0 w)
    (g c : Nat) (n : Nm) (A : Option Addr) (k cp B : Nat) (hx : a.eval x = .slice (some ⟨g, 0, none⟩) 1 c) (c0 : w.cell? ⟨g, 0, none⟩ = some (.string ⟨n.1.toArray⟩)) (c1 : w.cell? ⟨g, 1, none⟩ = some (.slice A k cp)) (hmv : OwP B 74 w (.slice A k cp) n.2) (hB : w0.heap.size ≤ B)
    (hlen : ns.length ≤ 900000) (hbase : base ≤ w0.heap.size)
    (h : ∀ v' w', OwN base w' v' (ns ++ [n]) → Below base w w' → wpList Tryd.prog ops K rest (a.put o.dst v') w') : wpList Tryd.prog ops K (o :: rest) a w := by
  obtain ⟨i, hi, hz, hsz, hby⟩ := info_parts Tryd.infoN
  have hbw : base ≤ w.heap.size := Nat.le_trans hbase hX.size
  obtain ⟨ms, h1, h2⟩ := hown
  have h1' := ownsRow_keep h1 hX
  have h2' := h2.keep hX
  have hap := OwN.apart h1' h2'
  have hsv : Sep v (.slice A k cp) := sep_of h1' hmv (by decide)
  refine wpList_append_own w hgd s x 46 ho base 89 i _ 2 40 Tryd.underlying46 hi hz hsz hby rfl (by decide) v ns.length (rowN ns ms) hs h1' ⟨g, 0, none⟩ 1 c [str n.1, .slice A k cp] hx rfl (fun j u hj => ?_) (fun u hu => ?_) (by unfold maxLen; omega) (by omega) hbw ?_
  · rw [addr_add]
    match j, hj with
    | 0, hj => simp at hj; subst hj; exact c0
    | 1, hj => simp at hj; subst hj; exact c1
    | j + 2, hj => simp at hj
  · simp at hu
    rcases hu with rfl | rfl <;> rfl
  · intro v' w' k1 k2 _
    have hm' := h2'.grownM k2 hap
    have ho' := hmv.grownM k2 hsv
    refine h v' w' ⟨ms ++ [.slice A k cp], ?_, ?_⟩ ((Below.refl _ _).grown k2 hbw (fun k hk => (h1'.lt k hk).1))
    · rw [List.length_append, List.length_singleton, rowN_app h2.1]
      exact k1
    · refine ⟨by simp [h2.1], fun j m u hn hm => ?_, fun i j m u hij hm hu => ?_⟩
      · rw [List.getElem?_append] at hn hm
        by_cases hj : j < ns.length
        · rw [if_pos hj] at hn
          rw [if_pos (by rw [h2.1]; exact hj)] at hm
          exact hm'.2.1 j m u hn hm
        · rw [if_neg hj] at hn
          rw [if_neg (by rw [h2.1]; exact hj)] at hm
          have hj0 : j = ns.length := by have := (List.getElem?_eq_some_iff.1 hn).1; simp at this; omega
          subst hj0
          rw [Nat.sub_self] at hn
          rw [h2.1, Nat.sub_self] at hm
          simp at hn hm
          subst hn
          subst hm
          exact ho'.low (Nat.le_trans hbase hB)
      · rw [List.getElem?_append] at hm hu
        by_cases hj : j < ns.length
        · rw [if_pos (by rw [h2.1]; omega)] at hm
          rw [if_pos (by rw [h2.1]; exact hj)] at hu
          exact h2.2.2 i j m u hij hm hu
        · rw [if_neg (by rw [h2.1]; exact hj)] at hu
          have hj0 : j = ns.length := by have := (List.getElem?_eq_some_iff.1 hu).1; simp at this; have := h2.1; omega
          subst hj0
          rw [if_pos (by rw [h2.1]; exact hij)] at hm
          rw [h2.1, Nat.sub_self] at hu
          simp at hu
          subst hu
          have hni : ns[i]? = some ns[i] := List.getElem?_eq_getElem hij
          exact sep_rows (h2.2.1 i _ m hni hm) hmv hB

set_option maxHeartbeats 1600000 in
theorem cloneP_is (ps : List Pt) (v : Value) (w : World) (hv : RdP w v ps) (hl : ps.length ≤ 100000) (h0 : ps ≠ []) :
    Calls Tryd.prog 150 #[v] w (RetP w ps) := by
  have HV := Lib.hid hv
  obtain ⟨A, c, rfl, h1, h2, h3⟩ := hv
  obtain ⟨g, o, rfl, hg, hc⟩ := h3 h0
  have hnz : 0 < ps.length := by cases ps with | nil => exact absurd rfl h0 | cons _ _ => simp
  have H0 := Lib.hid h0
  clear hc h3 h0
  have hnil := fun (w : World) (a : Option Addr) (n c n' c' : Nat) => Lib.run_eql_slice_nil (P := Tryd.prog) w 32 74 a n c n' c' Tryd.underlying32
  go_enter Tryd.func150, Tryd.ntmps150
  go_wp2_with (at_builtin; refine append_pts _ rfl _ _ rfl w.heap.size _ [] rfl ?own _ ps rfl ?rd H0.out ?len ?base ?_)
  case own => exact World.ownsRow_made w #[] 0 (Nat.le_refl _) (Nat.zero_le _) rfl
  case rd => exact HV.out.keep (by go_grown)
  case len => simp; omega
  case base => go_size
  intro v' w' hown hb
  have HO := Lib.hid (show OwP w.heap.size 74 w' v' ps by simpa using hown)
  have hB : Below w.heap.size w w' := Below.trans (by go_grown) hb
  clear hown hb
  go_wp2_with fail
  go_ret
  exact ⟨_, rfl, HO.out, hB⟩

end Go.Proofs.YtmabngjmfjjogaaDoor
