/- Plain: the places of a map and those before some values; compositions and clamped maps. -/
import Derived.Test.YtkeajfgcjmhmiaaGreatJ23
import Derived.Test.YtkeajfgcjmhmiaaGreatJ26
namespace Go.Proofs.YtkeajfgcjmhmiaaGreat
open Go.RowKit

theorem crossY_iff {p q : Pt} {y : Q} (hp : CoP p) (hq : CoP q) (hy : okQ y.1 y.2 = true) : crossY y p q = true ↔ (toR p.2 < toR y ∧ toR y < toR q.2) ∨ (toR y < toR p.2 ∧ toR q.2 < toR y) := by
  have k2 := okQ_bd (unitQ_ok (coordQ_unit hp.2))
  have k4 := okQ_bd (unitQ_ok (coordQ_unit hq.2))
  have k5 := okQ_bd hy
  unfold crossY
  rw [decide_eq_true_iff, sgn_mul (cmpQ_abs ..) (cmpQ_abs ..), cmpQ_lt k2.1 k5.1, cmpQ_gt k4.1 k5.1, cmpQ_gt k2.1 k5.1, cmpQ_lt k4.1 k5.1]
theorem pc_rise {ps : List Pt} (h : okMap ps = true) {s : Pt × Pt} (hs : s ∈ pcs ps) : toR s.1.1 < toR s.2.1 := by
  obtain ⟨i, h1, h2⟩ := mem_pcs.1 hs
  obtain ⟨l1, e1⟩ := List.getElem?_eq_some_iff.1 h1
  obtain ⟨l2, e2⟩ := List.getElem?_eq_some_iff.1 h2
  have := List.pairwise_iff_getElem.1 (okMap_up h) i (i + 1) l1 l2 (Nat.lt_succ_self i)
  rw [e1, e2] at this
  exact this
theorem part_between {s D u t r : Rat} (hD : 0 < D) (hs : s * D = u) (hr : r * s = t) (h : (0 < t ∧ t < u) ∨ (t < 0 ∧ u < t)) : 0 ≤ r ∧ r ≤ D := by
  have hs0 : s ≠ 0 := by rintro rfl; grind
  have e1 : r * u = t * D := by rw [← hs, ← hr]; grind
  constructor
  · apply Rat.not_lt.1
    intro hh
    rcases h with ⟨a, b⟩ | ⟨a, b⟩
    · have h1 : 0 < u := by grind
      have h2 : r * u < 0 * u := Rat.mul_lt_mul_of_pos_right hh h1
      have h3 : 0 * D < t * D := Rat.mul_lt_mul_of_pos_right a hD
      grind
    · have h1 : 0 < -u := by grind
      have h2 : r * -u < 0 * -u := Rat.mul_lt_mul_of_pos_right hh h1
      have h3 : t * D < 0 * D := Rat.mul_lt_mul_of_pos_right a hD
      grind
  · apply Rat.not_lt.1
    intro hh
    rcases h with ⟨a, b⟩ | ⟨a, b⟩
    · have h1 : 0 < u := by grind
      have h2 : D * u < r * u := Rat.mul_lt_mul_of_pos_right hh h1
      have h3 : t * D < u * D := Rat.mul_lt_mul_of_pos_right b hD
      grind
    · have h1 : 0 < -u := by grind
      have h2 : D * -u < r * -u := Rat.mul_lt_mul_of_pos_right hh h1
      have h3 : u * D < t * D := Rat.mul_lt_mul_of_pos_right b hD
      grind
theorem keepQ_or (r : Rat) : toR (keepQ (fitR r)) = r ∨ toR (keepQ (fitR r)) = 0 := by
  rcases keepQ_cases r with ⟨_, h⟩ | ⟨_, h⟩
  · exact .inl h
  · exact .inr (by rw [h]; exact toR_zero 1)
theorem backV_unit {p q : Pt} {y : Q} (hp : CoP p) (hq : CoP q) (hr : toR p.1 < toR q.1) (hy : okQ y.1 y.2 = true) (hc : crossY y p q = true) : unitQ (backV p q y).1 (backV p q y).2 = true := by
  have up := unitQ_iff.1 (coordQ_unit hp.1)
  have uq := unitQ_iff.1 (coordQ_unit hq.1)
  have vp := unitQ_ok (coordQ_unit hp.2)
  have k1 := okQ_bd up.1
  have k3 := okQ_bd uq.1
  obtain ⟨so, se⟩ := slopeQ_ok hp.1 hp.2 hq.1 hq.2 ((lessQ_iff k1.1 k3.1).2 hr)
  have hc := (crossY_iff hp hq hy).1 hc
  have hs0 : toR (slopeQ p q) ≠ 0 := by
    intro h
    rw [h] at se
    rcases hc with ⟨a, b⟩ | ⟨a, b⟩ <;> grind
  have hd : backD p y = fitR (toR y - toR p.2) := subQ_fit hy vp
  have od : okQ (keepQ (backD p y)).1 (keepQ (backD p y)).2 = true := by rw [hd]; exact keepQ_ok
  have hm : backM p q y = fitR (toR (keepQ (backD p y)) / toR (slopeQ p q)) := divQ_fit od so hs0
  have om : okQ (keepQ (backM p q y)).1 (keepQ (backM p q y)).2 = true := by rw [hm]; exact keepQ_ok
  have hb : backR p q y = fitR (toR p.1 + toR (keepQ (backM p q y))) := addQ_fit up.1 om
  have hD : (0 : Rat) < toR q.1 - toR p.1 := by grind
  have hr2 : ∀ t : Rat, t / toR (slopeQ p q) * toR (slopeQ p q) = t := fun t => Rat.div_mul_cancel hs0
  have vm : 0 ≤ toR (keepQ (backM p q y)) ∧ toR (keepQ (backM p q y)) ≤ toR q.1 - toR p.1 := by
    rw [hm]
    rcases keepQ_or (toR (keepQ (backD p y)) / toR (slopeQ p q)) with e | e
    · rw [e]
      have hx := hr2 (toR (keepQ (backD p y)))
      generalize toR (keepQ (backD p y)) / toR (slopeQ p q) = r at hx ⊢
      rw [hd] at hx
      rcases keepQ_or (toR y - toR p.2) with e2 | e2
      · rw [e2] at hx
        exact part_between hD se hx (by
          rcases hc with ⟨a, b⟩ | ⟨a, b⟩
          · left; constructor <;> grind
          · right; constructor <;> grind)
      · rw [e2] at hx
        have : r = 0 := by
          rcases Rat.mul_eq_zero.1 hx with h | h
          · exact h
          · exact absurd h hs0
        rw [this]; constructor <;> grind
    · rw [e]; constructor <;> grind
  show unitQ (keepQ (backR p q y)).1 (keepQ (backR p q y)).2 = true
  rw [hb]
  rcases keepQ_or (toR p.1 + toR (keepQ (backM p q y))) with e | e
  · rw [unitQ_iff]
    refine ⟨keepQ_ok, ?_, ?_⟩
    · show 0 ≤ toR (keepQ _); rw [e]; have := up.2.1; have := vm.1; show (0 : Rat) ≤ toR p.1 + _; grind
    · show toR (keepQ _) ≤ 1; rw [e]; have := uq.2.2; have := vm.2; show toR p.1 + _ ≤ (1 : Rat); grind
  · rw [unitQ_iff]
    refine ⟨keepQ_ok, ?_, ?_⟩
    · show 0 ≤ toR (keepQ _); rw [e]; grind
    · show toR (keepQ _) ≤ 1; rw [e]; grind
def UnL (l : List Q) : Prop := ∀ x ∈ l, unitQ x.1 x.2 = true
theorem UnL.ok {l : List Q} (h : UnL l) : OkL l := fun x hx => unitQ_ok (h x hx)
theorem befL_unit {y : Q} {ps : List Pt} (h : okMap ps = true) (hy : okQ y.1 y.2 = true) (k : Nat) : UnL (befL y ps k) := fun x hx => by
  unfold befL at hx
  rcases List.mem_append.1 hx with hx | hx
  · obtain ⟨p, hp, hm⟩ := List.mem_flatMap.1 hx
    split at hm
    · obtain rfl := List.mem_singleton.1 hm
      obtain ⟨i, hi⟩ := List.getElem?_of_mem (List.mem_of_mem_take (List.mem_of_mem_take hp))
      exact coordQ_unit (okMap_coord h hi).1
    · simp at hm
  · obtain ⟨s, hs, hm⟩ := List.mem_flatMap.1 hx
    have hs' := List.mem_of_mem_take hs
    obtain ⟨c1, c2⟩ := okMap_pc h hs'
    unfold befI at hm
    rcases List.mem_append.1 hm with hm | hm
    · split at hm
      · obtain rfl := List.mem_singleton.1 hm
        exact coordQ_unit c2.1
      · simp at hm
    · split at hm
      · rename_i hc
        obtain rfl := List.mem_singleton.1 hm
        exact backV_unit c1 c2 (pc_rise h hs') hy hc
      · simp at hm
theorem xs_unit {ps : List Pt} (h : okMap ps = true) : UnL (ps.map (·.1)) := fun q hq => by
  obtain ⟨p, hp, rfl⟩ := List.mem_map.1 hq
  obtain ⟨i, hi⟩ := List.getElem?_of_mem hp
  exact coordQ_unit (okMap_coord h hi).1
/-- The places of g and those before the first k values, as the program lists them. -/
def cutL (g : List Pt) (ys : List Q) (k : Nat) : List Q := g.map (·.1) ++ (ys.take k).flatMap (fun y => setQ (befL y g g.length))
def cutBad (g : List Pt) (ys : List Q) (k : Nat) : Bool := (ys.take k).any (fun y => !befOk y g)
/-- .. as the reference has them. -/
def cutS (g : List Pt) (ys : List Q) (k : Nat) : List Q := (ys.take k).foldl (fun l y => (befQ y g).foldl (fun l x => insQ x l) l) (g.map (·.1))
theorem cutL_zero (g : List Pt) (ys : List Q) : cutL g ys 0 = g.map (·.1) := by unfold cutL; simp
theorem cutS_zero (g : List Pt) (ys : List Q) : cutS g ys 0 = g.map (·.1) := by unfold cutS; simp
theorem cutBad_zero (g : List Pt) (ys : List Q) : cutBad g ys 0 = false := by unfold cutBad; simp
theorem cutL_next {g : List Pt} {ys : List Q} {k : Nat} {y : Q} (h : ys[k]? = some y) : cutL g ys (k + 1) = cutL g ys k ++ setQ (befL y g g.length) := by
  unfold cutL
  rw [take_snoc_get h, List.flatMap_append, List.append_assoc]
  simp
theorem cutS_next {g : List Pt} {ys : List Q} {k : Nat} {y : Q} (h : ys[k]? = some y) : cutS g ys (k + 1) = (befQ y g).foldl (fun l x => insQ x l) (cutS g ys k) := by
  unfold cutS
  rw [take_snoc_get h, List.foldl_append]
  simp
theorem cutBad_next {g : List Pt} {ys : List Q} {k : Nat} {y : Q} (h : ys[k]? = some y) : cutBad g ys (k + 1) = (cutBad g ys k || !befOk y g) := by
  unfold cutBad
  rw [take_snoc_get h, List.any_append]
  simp
theorem cutL_len (g : List Pt) (ys : List Q) (k : Nat) : (cutL g ys k).length ≤ g.length + (1 + 2 * g.length) * ys.length := by
  unfold cutL
  rw [List.length_append, List.length_map]
  have h := flat_bd (fun y => setQ (befL y g g.length)) (1 + 2 * g.length) (fun y => Nat.le_trans (setQ_len _) (befL_len y g _)) (ys.take k)
  have h2 : (1 + 2 * g.length) * (ys.take k).length ≤ (1 + 2 * g.length) * ys.length := Nat.mul_le_mul_left _ (by rw [List.length_take]; omega)
  omega
theorem befQ_len (y : Q) (ps : List Pt) : (befQ y ps).length ≤ 3 * ps.length := by
  unfold befQ
  have h := setQ_len ((pcs ps).flatMap (befPc y))
  have h2 := flat_bd (befPc y) 3 (fun s => befPc_len y s) (pcs ps)
  rw [pcs_len] at h2
  omega
theorem cutS_len (g : List Pt) (ys : List Q) (k : Nat) : (cutS g ys k).length ≤ g.length + 3 * g.length * ys.length := by
  have hh : ∀ (zs : List Q) (l : List Q), (zs.foldl (fun l y => (befQ y g).foldl (fun l x => insQ x l) l) l).length ≤ l.length + 3 * g.length * zs.length := by
    intro zs
    induction zs with
    | nil => intro l; simp
    | cons y r ih =>
      intro l
      rw [List.foldl_cons, List.length_cons]
      have h1 := ih ((befQ y g).foldl (fun l x => insQ x l) l)
      have h2 := foldQ_len (befQ y g) l
      have h3 := befQ_len y g
      have h4 : 3 * g.length * (r.length + 1) = 3 * g.length * r.length + 3 * g.length := Nat.mul_succ _ _
      omega
  have h := hh (ys.take k) (g.map (·.1))
  have h2 : 3 * g.length * (ys.take k).length ≤ 3 * g.length * ys.length := Nat.mul_le_mul_left _ (by rw [List.length_take]; omega)
  unfold cutS
  rw [List.length_map] at h
  omega
theorem cutL_unit {g : List Pt} {ys : List Q} (h : okMap g = true) (hy : OkL ys) (k : Nat) : UnL (cutL g ys k) := fun x hx => by
  unfold cutL at hx
  rcases List.mem_append.1 hx with hx | hx
  · exact xs_unit h x hx
  · obtain ⟨y, hm, h2⟩ := List.mem_flatMap.1 hx
    rw [setQ_mem] at h2
    exact befL_unit h (hy y (List.mem_of_mem_take hm)) _ x h2
theorem befQ_unit {g : List Pt} {y : Q} (h : okMap g = true) (hy : okQ y.1 y.2 = true) (hb : befOk y g = true) : UnL (befQ y g) := fun x hx => by
  rw [← bef_set h (okMap_len h).1 hb, setQ_mem] at hx
  exact befL_unit h hy _ x hx
theorem cutS_mem {g : List Pt} (ys : List Q) (k : Nat) (x : Q) : x ∈ cutS g ys k ↔ x ∈ g.map (·.1) ∨ ∃ y ∈ ys.take k, x ∈ befQ y g := by
  unfold cutS
  generalize ys.take k = zs
  have hh : ∀ (zs l : List Q), x ∈ zs.foldl (fun l y => (befQ y g).foldl (fun l x => insQ x l) l) l ↔ x ∈ l ∨ ∃ y ∈ zs, x ∈ befQ y g := by
    intro zs
    induction zs with
    | nil => intro l; simp
    | cons y r ih =>
      intro l
      rw [List.foldl_cons, ih, foldQ_mem]
      simp only [List.mem_cons, exists_eq_or_imp, or_assoc]
  exact hh zs _
theorem befOk_of {g : List Pt} {ys : List Q} {k : Nat} (hb : cutBad g ys k = false) {y : Q} (hy : y ∈ ys.take k) : befOk y g = true := by
  unfold cutBad at hb
  have := List.any_eq_false.1 hb y hy
  simpa using this
theorem cutS_unit {g : List Pt} {ys : List Q} {k : Nat} (h : okMap g = true) (hy : OkL ys) (hb : cutBad g ys k = false) : UnL (cutS g ys k) := fun x hx => by
  rcases (cutS_mem ys k x).1 hx with hx | ⟨y, hm, hx⟩
  · exact xs_unit h x hx
  · exact befQ_unit h (hy y (List.mem_of_mem_take hm)) (befOk_of hb hm) x hx
theorem upQ_xs2 {ps : List Pt} (h : okMap ps = true) : UpQ (ps.map (·.1)) := by
  unfold UpQ
  rw [List.pairwise_map]
  exact okMap_up h
theorem cutS_up {g : List Pt} {ys : List Q} {k : Nat} (h : okMap g = true) (hy : OkL ys) (hb : cutBad g ys k = false) : UpQ (cutS g ys k) := by
  have hh : ∀ (zs l : List Q), OkL zs → (∀ y ∈ zs, befOk y g = true) → OkL l → UpQ l → UpQ (zs.foldl (fun l y => (befQ y g).foldl (fun l x => insQ x l) l) l) := by
    intro zs
    induction zs with
    | nil => intro l _ _ _ hu; exact hu
    | cons y r ih =>
      intro l ho hb hl hu
      rw [List.foldl_cons]
      have ob := (befQ_unit h (ho y (List.mem_cons_self ..)) (hb y (List.mem_cons_self ..))).ok
      refine ih _ (fun z hz => ho z (List.mem_cons_of_mem _ hz)) (fun z hz => hb z (List.mem_cons_of_mem _ hz)) (fun z hz => ?_) (foldQ_up ob hl hu)
      rw [foldQ_mem] at hz
      exact hz.elim (hl z) (ob z)
  exact hh (ys.take k) _ (fun y hm => hy y (List.mem_of_mem_take hm)) (fun y hm => befOk_of hb hm) (xs_unit h).ok (upQ_xs2 h)
theorem cut_same {g : List Pt} {ys : List Q} {k : Nat} (h : okMap g = true) (hy : OkL ys) (hb : cutBad g ys k = false) : cutS g ys k = setQ (cutL g ys k) := by
  refine setQ_of (cutL_unit h hy k).ok (cutS_up h hy hb) (fun x => ?_)
  rw [cutS_mem]
  unfold cutL
  rw [List.mem_append, List.mem_flatMap]
  have hl := (okMap_len h).1
  constructor
  · rintro (hx | ⟨y, hm, hx⟩)
    · exact .inl hx
    · rw [← bef_set h hl (befOk_of hb hm)] at hx
      exact .inr ⟨y, hm, hx⟩
  · rintro (hx | ⟨y, hm, hx⟩)
    · exact .inl hx
    · refine .inr ⟨y, hm, ?_⟩
      rw [← bef_set h hl (befOk_of hb hm)]
      exact hx
theorem setQ_unit {l : List Q} (h : UnL l) : UnL (setQ l) := fun x hx => h x ((setQ_mem l x).1 hx)
theorem setQ_long {a b : List Q} (ha : OkL a) (hb : OkL b) (hu : UpQ a) (h : ∀ x ∈ a, x ∈ b) : a.length ≤ (setQ b).length := by
  have hs : setQ b = (setQ b).foldl (fun l x => insQ x l) a := by
    have hob : OkL (setQ b) := fun x hx => hb x ((setQ_mem b x).1 hx)
    refine (setQ_of hb (foldQ_up hob ha hu) (fun x => ?_)).symm
    rw [foldQ_mem, setQ_mem]
    exact ⟨fun h1 => h1.elim (h x) id, fun h1 => .inr h1⟩
  have ge : ∀ (x : Q) (l : List Q), l.length ≤ (insQ x l).length := by
    intro x l
    induction l with
    | nil => simp
    | cons y r ih =>
      unfold insQ
      split
      · rw [List.length_cons, List.length_cons]; omega
      · split <;> simp
  have gf : ∀ (zs l : List Q), l.length ≤ (zs.foldl (fun l x => insQ x l) l).length := by
    intro zs
    induction zs with
    | nil => intro l; exact Nat.le_refl _
    | cons z r ih => intro l; exact Nat.le_trans (ge z l) (ih _)
  rw [hs]
  exact gf _ _
/-- The places of g and those before all values. -/
def cutAll (g : List Pt) (ys : List Q) : List Q := setQ (cutL g ys ys.length)
def cutOk (g : List Pt) (ys : List Q) : Bool := ys.all (fun y => befOk y g)
theorem cutBad_end (g : List Pt) (ys : List Q) : cutBad g ys ys.length = !cutOk g ys := by
  unfold cutBad cutOk
  rw [List.take_length, List.not_all_eq_any_not]
theorem cutAll_two {g : List Pt} {ys : List Q} (h : okMap g = true) (hy : OkL ys) : 2 ≤ (cutAll g ys).length := by
  have h1 : (g.map (·.1)).length ≤ (cutAll g ys).length := setQ_long (xs_unit h).ok (cutL_unit h hy _).ok (upQ_xs2 h) (fun x hx => by unfold cutL; exact List.mem_append_left _ hx)
  rw [List.length_map] at h1
  have := (okMap_len h).1
  omega
theorem cutAll_len (g : List Pt) (ys : List Q) : (cutAll g ys).length ≤ g.length + (1 + 2 * g.length) * ys.length := Nat.le_trans (setQ_len _) (cutL_len g ys _)
theorem cutAll_unit {g : List Pt} {ys : List Q} (h : okMap g = true) (hy : OkL ys) : UnL (cutAll g ys) := setQ_unit (cutL_unit h hy _)
theorem cutAll_up {g : List Pt} {ys : List Q} (h : okMap g = true) (hy : OkL ys) : UpQ (cutAll g ys) := setQ_up (cutL_unit h hy _).ok
/-- Points at places, with the values that a function gives. -/
def ptsQ (F : Q → Q) (xs : List Q) : List Pt := xs.map (fun x => (x, F x))
theorem pts_joined {F : Q → Q} {xs : List Q} (hu : UnL xs) (hF : ∀ x ∈ xs, unitQ (F x).1 (F x).2 = true) (hp : UpQ xs) (h2 : 2 ≤ xs.length) (h3 : xs.length ≤ 100000) : Joined (ptsQ F xs) where
  unit := fun p hm => by
    unfold ptsQ at hm
    obtain ⟨x, hx, rfl⟩ := List.mem_map.1 hm
    exact ⟨hu x hx, hF x hx⟩
  up := by
    unfold ptsQ UpP
    rw [List.pairwise_map]
    exact hp
  len := by
    unfold ptsQ
    rw [List.length_map]
    exact ⟨h2, h3⟩
/-- Compositions. -/
def comV (f g : List Pt) (x : Q) : Q := (valQ f (valQ g x).1).1
def comT (f g : List Pt) (x : Q) : Bool := (valQ g x).2 && (valQ f (valQ g x).1).2
def comXs (f g : List Pt) : List Q := cutAll g (f.map (·.1))
def comL (f g : List Pt) : List Pt := ptsQ (comV f g) (comXs f g)
def comQ (f g : List Pt) : List Pt × Bool := if (cutOk g (f.map (·.1)) && (comXs f g).all (comT f g)) = true then madeQ (comL f g) else ([], false)
theorem comQ_yes {f g : List Pt} (h1 : cutOk g (f.map (·.1)) = true) (h2 : (comXs f g).all (comT f g) = true) : comQ f g = madeQ (comL f g) := by
  unfold comQ; rw [if_pos (by rw [h1, h2]; rfl)]
theorem comQ_no {f g : List Pt} (h : (cutOk g (f.map (·.1)) && (comXs f g).all (comT f g)) = false) : comQ f g = ([], false) := by
  unfold comQ; rw [if_neg (by rw [h]; simp)]
theorem comXs_len {f g : List Pt} (hf : okMap f = true) (hg : okMap g = true) : 2 ≤ (comXs f g).length ∧ (comXs f g).length ≤ 312 := by
  have h1 := okMap_len hf
  have h2 := okMap_len hg
  have h3 := cutAll_len g (f.map (·.1))
  rw [List.length_map] at h3
  have h4 : (1 + 2 * g.length) * f.length ≤ 25 * 12 := Nat.mul_le_mul (by omega) h1.2
  refine ⟨cutAll_two hg (xs_unit hf).ok, ?_⟩
  unfold comXs
  omega
theorem comV_unit {f g : List Pt} (hf : okMap f = true) (hg : okMap g = true) {x : Q} (hx : unitQ x.1 x.2 = true) : unitQ (comV f g x).1 (comV f g x).2 = true := valQ_unit hf (valQ_unit hg hx)
theorem comL_joined {f g : List Pt} (hf : okMap f = true) (hg : okMap g = true) : Joined (comL f g) :=
  pts_joined (cutAll_unit hg (xs_unit hf).ok) (fun _ hx => comV_unit hf hg (cutAll_unit hg (xs_unit hf).ok _ hx)) (cutAll_up hg (xs_unit hf).ok) (comXs_len hf hg).1 (by have := (comXs_len hf hg).2; omega)
theorem comQ_len {f g m : List Pt} {t : Bool} (h : comQ f g = (m, t)) : m.length ≤ 1048576 := by
  unfold comQ at h
  split at h
  · exact madeQ_len h
  · obtain ⟨rfl, -⟩ := Prod.mk.inj h; simp
/-- What ComposeMaps gives. -/
def composeQ (f g : List Pt) : List Pt × Bool := if (okMap f && okMap g) = true then comQ f g else ([], false)
theorem composeQ_len {f g m : List Pt} {t : Bool} (h : composeQ f g = (m, t)) : m.length ≤ 1048576 := by
  unfold composeQ at h
  split at h
  · exact comQ_len h
  · obtain ⟨rfl, -⟩ := Prod.mk.inj h; simp
theorem madeQ_map {l m : List Pt} {t : Bool} (h : madeQ l = (m, t)) (ht : t = true) : okMap m = true := by
  unfold madeQ at h
  split at h
  · rename_i hh
    obtain ⟨rfl, -⟩ := Prod.mk.inj h
    exact hh.2
  · obtain ⟨rfl, rfl⟩ := Prod.mk.inj h; simp at ht
theorem comQ_map {f g m : List Pt} {t : Bool} (h : comQ f g = (m, t)) (ht : t = true) : okMap m = true := by
  unfold comQ at h
  split at h
  · exact madeQ_map h ht
  · obtain ⟨rfl, rfl⟩ := Prod.mk.inj h; simp at ht
/-- Powers. -/
def sameL : List Pt := [((0, 1), (0, 1)), ((1, 1), (1, 1))]
def powQ (f : List Pt) : Nat → List Pt × Bool
  | 0 => (sameL, true)
  | n + 1 => if (powQ f n).2 = true then comQ f (powQ f n).1 else ([], false)
theorem sameL_map : okMap sameL = true := by decide
theorem powQ_map (f : List Pt) : ∀ n, (powQ f n).2 = true → okMap (powQ f n).1 = true
  | 0, _ => sameL_map
  | n + 1, h => by
    unfold powQ at h ⊢
    split at h
    · rename_i hh
      rw [if_pos hh]
      exact comQ_map (Prod.eta (comQ f (powQ f n).1)).symm h
    · simp at h
/-- What PowerOfMap gives. -/
def powerQ (f : List Pt) (n : Int) : List Pt × Bool := if okMap f = true ∧ 0 ≤ n ∧ n ≤ 6 then (if (powQ f n.toNat).2 = true then powQ f n.toNat else ([], false)) else ([], false)
/-- What DoCommute gives. -/
def commQ (f g : List Pt) : Bool × Bool := if ((composeQ f g).2 && (composeQ g f).2) = true then (decide ((composeQ f g).1 = (composeQ g f).1), true) else (false, false)
/-- Clamped maps. -/
def clampV (f : List Pt) (lo hi : Q) (x : Q) : Q :=
  let y := (valQ f x).1
  let a := if lessQ y.1 y.2 lo.1 lo.2 = true then lo else y
  if lessQ hi.1 hi.2 a.1 a.2 = true then hi else a
def clampXs (f : List Pt) (lo hi : Q) : List Q := cutAll f [lo, hi]
def clampL (f : List Pt) (lo hi : Q) : List Pt := ptsQ (clampV f lo hi) (clampXs f lo hi)
def clampAsk (f : List Pt) (lo hi : Q) : Bool := okMap f && unitQ lo.1 lo.2 && unitQ hi.1 hi.2 && !lessQ hi.1 hi.2 lo.1 lo.2
def clampOk (f : List Pt) (lo hi : Q) : Bool := cutOk f [lo, hi] && (clampXs f lo hi).all (fun x => (valQ f x).2)
/-- What ClampMap gives. -/
def clampQ (f : List Pt) (lo hi : Q) : List Pt × Bool := if clampAsk f lo hi = true then (if clampOk f lo hi = true then madeQ (clampL f lo hi) else ([], false)) else ([], false)
theorem clampQ_len {f m : List Pt} {lo hi : Q} {t : Bool} (h : clampQ f lo hi = (m, t)) : m.length ≤ 1048576 := by
  unfold clampQ at h
  split at h
  · split at h
    · exact madeQ_len h
    · obtain ⟨rfl, -⟩ := Prod.mk.inj h; simp
  · obtain ⟨rfl, -⟩ := Prod.mk.inj h; simp
theorem clampV_unit {f : List Pt} {lo hi x : Q} (hf : okMap f = true) (h1 : unitQ lo.1 lo.2 = true) (h2 : unitQ hi.1 hi.2 = true) (hx : unitQ x.1 x.2 = true) : unitQ (clampV f lo hi x).1 (clampV f lo hi x).2 = true := by
  have h3 := valQ_unit hf hx
  have h4 : ∀ (a b : Q) (c : Bool), unitQ a.1 a.2 = true → unitQ b.1 b.2 = true → unitQ (if c = true then a else b).1 (if c = true then a else b).2 = true := fun a b c ha hb => by
    cases c
    · exact hb
    · exact ha
  exact h4 _ _ _ h2 (h4 _ _ _ h1 h3)
theorem two_ok {lo hi : Q} (h1 : unitQ lo.1 lo.2 = true) (h2 : unitQ hi.1 hi.2 = true) : OkL [lo, hi] := fun x hx => by
  simp only [List.mem_cons, List.not_mem_nil, or_false] at hx
  rcases hx with rfl | rfl
  · exact unitQ_ok h1
  · exact unitQ_ok h2
theorem clampXs_len {f : List Pt} {lo hi : Q} (hf : okMap f = true) (h1 : unitQ lo.1 lo.2 = true) (h2 : unitQ hi.1 hi.2 = true) : 2 ≤ (clampXs f lo hi).length ∧ (clampXs f lo hi).length ≤ 62 := by
  have h3 := okMap_len hf
  have h4 := cutAll_len f [lo, hi]
  rw [show [lo, hi].length = 2 from rfl] at h4
  refine ⟨cutAll_two hf (two_ok h1 h2), ?_⟩
  unfold clampXs
  omega
theorem clampL_joined {f : List Pt} {lo hi : Q} (hf : okMap f = true) (h1 : unitQ lo.1 lo.2 = true) (h2 : unitQ hi.1 hi.2 = true) : Joined (clampL f lo hi) :=
  pts_joined (cutAll_unit hf (two_ok h1 h2)) (fun _ hx => clampV_unit hf h1 h2 (cutAll_unit hf (two_ok h1 h2) _ hx)) (cutAll_up hf (two_ok h1 h2)) (clampXs_len hf h1 h2).1 (by have := (clampXs_len hf h1 h2).2; omega)

end Go.Proofs.YtkeajfgcjmhmiaaGreat
