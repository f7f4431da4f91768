/- Plain: simple and reflected maps are maps, with the values that are due. -/
import Derived.Test.YtkeajfgcjmhmiaaGreatDoorM36
import Derived.Test.YtkeajfgcjmhmiaaGreatDoorM37
namespace Go.Proofs.YtkeajfgcjmhmiaaGreatDoor
open Go.RowKit

theorem okMap_mk {ps : List Pt} (h1 : 2 ≤ ps.length ∧ ps.length ≤ 12) (h2 : ∀ p ∈ ps, CoP p) (h3 : (ps.head?).map (·.1) = some (0, 1)) (h4 : (ps.getLast?).map (·.1) = some (1, 1)) (h5 : UpX ps) : okMap ps = true := by
  simp only [okMap, Bool.and_eq_true, decide_eq_true_eq, List.all_eq_true]
  refine ⟨⟨⟨⟨h1, fun p hp => h2 p hp⟩, h3⟩, h4⟩, ?_⟩
  rw [risingB_iff]
  intro i x y hx hy
  rw [List.getElem?_map] at hx hy
  obtain ⟨p, hp, rfl⟩ := Option.map_eq_some_iff.1 hx
  obtain ⟨q, hq, rfl⟩ := Option.map_eq_some_iff.1 hy
  exact (riseC_pts h2 h5).rise i p q hp hq
theorem kept_last : ∀ (t : List Pt) (a p q : Pt), (a :: keptL p q t).getLast? = (q :: t).getLast?
  | [], a, p, q => by rw [keptL, List.getLast?_cons_cons]
  | r :: t, a, p, q => by
    rw [keptL, List.getLast?_cons_cons]
    split
    · rw [List.nil_append]; exact kept_last t a q r
    · show (a :: q :: keptL q r t).getLast? = _
      rw [List.getLast?_cons_cons]; exact kept_last t q q r
theorem simple_map {ps : List Pt} (hm : okMap ps = true) : okMap (simpleQ ps) = true := by
  have hl := okMap_len hm
  have hc := okMap_coP hm
  have hu := okMap_upX hm
  have hs := simple_sub hc hu hl.1
  have h1 := okMap_first hm
  have h2 := okMap_last hm
  refine okMap_mk ⟨simple_long hc hu hl.1, Nat.le_trans hs.length_le hl.2⟩ (fun p hp => hc p (hs.subset hp)) ?_ ?_ (List.Pairwise.sublist hs hu)
  · obtain ⟨p, q, t, rfl, e, -, -⟩ := simple_two hm
    rw [e]; exact h1
  · obtain ⟨p, q, t, rfl, e, -, -⟩ := simple_two hm
    rw [e, kept_last]
    rw [List.getLast?_cons_cons] at h2
    exact h2
theorem mir_ok {q : Q} (h : coordQ q.1 q.2 = true) : coordQ (mirQ q).1 (mirQ q).2 = true ∧ toR (mirQ q) = 1 - toR q := by
  obtain ⟨a, b⟩ := q
  simp only [coordQ, unitQ, Bool.and_eq_true, decide_eq_true_eq] at h
  obtain ⟨⟨ho, h1, h2⟩, h3⟩ := h
  have hb := okQ_bd ho
  have hg := okQ_gcd ho
  have hg2 : Int.gcd (b - a) b = 1 := by rw [Int.gcd_comm, Int.gcd_self_sub_right]; rw [Int.gcd_comm]; exact hg
  refine ⟨?_, ?_⟩
  · simp only [mirQ, coordQ, unitQ, Bool.and_eq_true]
    exact ⟨⟨okQ_mk hb.1 hb.2.1 (by omega) (by omega) hg2, decide_eq_true ⟨by omega, by omega⟩⟩, decide_eq_true h3⟩
  · have hne : (b : Rat) ≠ 0 := by
      intro h0
      have : b = 0 := by exact_mod_cast h0
      omega
    have e1 : toR (a, b) * (b : Rat) = (a : Rat) := toR_mul ho
    have e2 : toR (mirQ (a, b)) * (b : Rat) = ((b - a : Int) : Rat) := by
      show toR (b - a, b) * (b : Rat) = _
      exact toR_mul (okQ_mk hb.1 hb.2.1 (by omega) (by omega) hg2)
    rw [Rat.intCast_sub] at e2
    have : (toR (mirQ (a, b)) - (1 - toR (a, b))) * (b : Rat) = 0 := by grind
    rcases Rat.mul_eq_zero.1 this with h | h
    · grind
    · exact absurd h hne
theorem mir_mir (q : Q) : mirQ (mirQ q) = q := by
  obtain ⟨a, b⟩ := q
  simp only [mirQ, Prod.mk.injEq, and_true]; omega
theorem refl_refl (p : Pt) : reflP (reflP p) = p := by
  obtain ⟨x, y⟩ := p
  simp only [reflP, mir_mir]
theorem reflect_twice (ps : List Pt) : reflectQ (reflectQ ps) = ps := by
  unfold reflectQ
  rw [← List.map_reverse, List.reverse_reverse, List.map_map]
  have : (reflP ∘ reflP) = id := funext refl_refl
  rw [this, List.map_id]
theorem reflect_map {ps : List Pt} (hm : okMap ps = true) : okMap (reflectQ ps) = true := by
  have hl := okMap_len hm
  have hc := okMap_coP hm
  have h1 := okMap_first hm
  have h2 := okMap_last hm
  refine okMap_mk (by rw [reflectQ_len]; exact hl) (fun p hp => ?_) ?_ ?_ ?_
  · unfold reflectQ at hp
    obtain ⟨q, hq, rfl⟩ := List.mem_map.1 hp
    have := hc q (List.mem_reverse.1 hq)
    exact ⟨(mir_ok this.1).1, (mir_ok this.2).1⟩
  · unfold reflectQ
    rw [List.head?_map, List.head?_reverse]
    cases e : ps.getLast? with
    | none => rw [e] at h2; simp at h2
    | some z =>
      rw [e] at h2
      have e1 : z.1 = (1, 1) := by simpa using h2
      simp [reflP, e1, mirQ]
  · unfold reflectQ
    rw [List.getLast?_map, List.getLast?_reverse]
    cases e : ps.head? with
    | none => rw [e] at h1; simp at h1
    | some z =>
      rw [e] at h1
      have e1 : z.1 = (0, 1) := by simpa using h1
      simp [reflP, e1, mirQ]
  · unfold reflectQ UpX
    rw [List.pairwise_map, List.pairwise_reverse]
    have hu := okMap_upX hm
    unfold UpX at hu
    refine List.Pairwise.imp_of_mem (fun {a b} ha hb h => ?_) hu
    have ea := (mir_ok (hc a ha).1).2
    have eb := (mir_ok (hc b hb).1).2
    show toR (mirQ b.1) < toR (mirQ a.1)
    rw [ea, eb]; grind
/-- What the law on maps wants of a valid map. -/
structure MapsLaw (f : List Pt) : Prop where
  again : simpleMapQ (simpleQ f) = (simpleQ f, true)
  short : (simpleQ f).length ≤ f.length
  twice : reflMapQ (reflectQ f) = (f, true)
  pts : ∀ (k : Nat) (p : Pt), f[k]? = some p → vaQ f p.1 = (p.2.1, p.2.2, true) ∧ vaQ (simpleQ f) p.1 = (p.2.1, p.2.2, true) ∧ vaQ (reflectQ f) (p.1.2 - p.1.1, p.1.2) = (p.2.2 - p.2.1, p.2.2, true)
theorem maps_law {f : List Pt} (hm : okMap f = true) : MapsLaw f where
  again := by unfold simpleMapQ; rw [if_pos (simple_map hm), map_idem hm]
  short := map_simple_len hm
  twice := by unfold reflMapQ; rw [if_pos (reflect_map hm), reflect_twice]
  pts := fun k p hk => by
    have hp := List.mem_of_getElem? hk
    have hc := okMap_coP hm p hp
    have hr := reflect_map hm
    refine ⟨vaQ_point hm hk, ?_, ?_⟩
    · refine vaQ_of (simple_map hm) (coordQ_unit hc.1) ?_
      refine valQ_coord (simple_map hm) hc.1 hc.2 ?_
      rw [simple_eval hm]
      exact eval_point f (okMap_upX hm) p hp
    · have hin : reflP p ∈ reflectQ f := by
        unfold reflectQ
        exact List.mem_map.2 ⟨p, List.mem_reverse.2 hp, rfl⟩
      obtain ⟨j, hj⟩ := List.getElem?_of_mem hin
      exact vaQ_point hr hj
/-- The value at a place lies between 0 and 1. -/
theorem va_unit {f : List Pt} {x : Q} {a b : Int} (h : vaQ f x = (a, b, true)) : okQ a b = true ∧ 0 ≤ a ∧ a ≤ b := by
  obtain ⟨hm, hx, hv⟩ := vaQ_yes h
  have := valQ_unit hm hx
  rw [hv] at this
  simp only [unitQ, Bool.and_eq_true, decide_eq_true_eq] at this
  exact ⟨this.1, this.2⟩
end Go.Proofs.YtkeajfgcjmhmiaaGreatDoor
