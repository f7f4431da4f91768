/- Plain: laps' structure; an image's bounds. -/
import Derived.Test.YtkeajfgcjmhmiaaLapC
import Derived.Test.YtkeajfgcjmhmiaaImgC
import Derived.Test.YtkeajfgcjmhmiaaFixP
namespace Go.Proofs.Ytkeajfgcjmhmiaa
open Go.RowKit

/-- What is known of the laps of the first k pieces. -/
structure LapTo (sl : List Q) (k : Nat) (rs : List Row3) : Prop where
  first : ∀ r, rs[0]? = some r → r.1 = 0
  last : ∀ r, rs[rs.length - 1]? = some r → r.2.1 = k
  wide : ∀ (i : Nat) (r : Row3), rs[i]? = some r → 0 ≤ r.1 ∧ r.1 < r.2.1 ∧ r.2.1 ≤ k
  sign : ∀ (i : Nat) (r : Row3), rs[i]? = some r → ∀ (j : Nat) (s : Q), r.1 ≤ j → (j : Int) < r.2.1 → sl[j]? = some s → sgnQ s = r.2.2
  next : ∀ (i : Nat) (r t : Row3), rs[i]? = some r → rs[i + 1]? = some t → r.2.1 = t.1 ∧ r.2.2 ≠ t.2.2
theorem lapTo (sl : List Q) : ∀ k, k ≤ sl.length → LapTo sl k (lapN sl k)
  | 0, _ => ⟨by simp [lapN], by simp [lapN], by simp [lapN], by simp [lapN], by simp [lapN]⟩
  | k + 1, hk => by
    have ih := lapTo sl k (by omega)
    have hs := List.getElem?_eq_getElem (show k < sl.length by omega)
    generalize sl[k] = s at hs
    rw [lapN_next hs]
    generalize hrs : lapN sl k = rs at ih
    have hpos : k ≠ 0 → 0 < rs.length := fun h0 => by
      obtain ⟨j, rfl⟩ : ∃ j, k = j + 1 := ⟨k - 1, by omega⟩
      rw [← hrs]; exact lapN_pos (by omega)
    rcases Nat.eq_zero_or_pos rs.length with h0 | h0
    · have hk0 : k = 0 := Nat.eq_zero_of_not_pos (fun hp => by have := hpos (by omega); omega)
      subst hk0
      have he : rs = [] := List.eq_nil_of_length_eq_zero h0
      rw [addLap_none he, he]
      have one : ∀ (i : Nat) (r : Row3), ([] ++ [(((0 : Nat) : Int), ((0 : Nat) : Int) + 1, sgnQ s)] : List Row3)[i]? = some r → i = 0 ∧ r = (0, 1, sgnQ s) := by
        intro i r h
        rw [List.nil_append] at h
        cases i with
        | zero => simp at h; exact ⟨rfl, by rw [← h]⟩
        | succ i => simp at h
      refine ⟨fun r h => ?_, fun r h => ?_, fun i r h => ?_, fun i r h j q h1 h2 h3 => ?_, fun i r t h1 h2 => ?_⟩
      · rw [(one _ _ h).2]
      · rw [(one _ _ h).2]; rfl
      · rw [(one _ _ h).2]; simp
      · rw [(one _ _ h).2] at h1 h2 ⊢
        simp only at h1 h2 ⊢
        obtain rfl : j = 0 := by omega
        rw [hs] at h3; cases h3; rfl
      · have := (one _ _ h2).1; omega
    · obtain ⟨l, hl⟩ : ∃ l, rs[rs.length - 1]? = some l := ⟨_, List.getElem?_eq_getElem (by omega)⟩
      have hlast := ih.last _ hl
      have hw := ih.wide _ _ hl
      by_cases hg : l.2.2 = sgnQ s
      · rw [← hg, addLap_same hl]
        have get : ∀ (i : Nat) (r : Row3), (rs.set (rs.length - 1) (l.1, (k : Int) + 1, l.2.2))[i]? = some r → (i = rs.length - 1 ∧ r = (l.1, (k : Int) + 1, l.2.2)) ∨ (i < rs.length - 1 ∧ rs[i]? = some r) := by
          intro i r h
          have hi := (List.getElem?_eq_some_iff.1 h).1
          rw [List.length_set] at hi
          rw [List.getElem?_set] at h
          split at h
          · rename_i e
            split at h
            · exact Or.inl ⟨e.symm, by simpa using h.symm⟩
            · simp at h
          · rename_i e
            exact Or.inr ⟨by omega, h⟩
        refine ⟨fun r h => ?_, fun r h => ?_, fun i r h => ?_, fun i r h j q h1 h2 h3 => ?_, fun i r t h1 h2 => ?_⟩
        · rcases get _ _ h with ⟨e, rfl⟩ | ⟨e, h'⟩
          · rw [← e] at hl; exact ih.first l hl
          · exact ih.first _ h'
        · rw [List.length_set] at h
          rcases get _ _ h with ⟨e, rfl⟩ | ⟨e, h'⟩
          · simp
          · omega
        · rcases get _ _ h with ⟨e, rfl⟩ | ⟨e, h'⟩
          · simp only; omega
          · have := ih.wide _ _ h'; omega
        · rcases get _ _ h with ⟨e, rfl⟩ | ⟨e, h'⟩
          · simp only at h1 h2 ⊢
            rcases Nat.lt_or_ge j k with hj | hj
            · exact ih.sign _ _ hl j q h1 (by omega) h3
            · obtain rfl : j = k := by omega
              rw [hs] at h3; cases h3; exact hg.symm
          · exact ih.sign _ _ h' j q h1 h2 h3
        · rcases get _ _ h1 with ⟨e, rfl⟩ | ⟨e, h1'⟩
          · rcases get _ _ h2 with ⟨e2, -⟩ | ⟨e2, -⟩ <;> omega
          · rcases get _ _ h2 with ⟨e2, rfl⟩ | ⟨e2, h2'⟩
            · rw [← e2] at hl
              exact ih.next _ _ l h1' hl
            · exact ih.next _ _ _ h1' h2'
      · rw [addLap_new hl hg]
        have get : ∀ (i : Nat) (r : Row3), (rs ++ [((k : Int), (k : Int) + 1, sgnQ s)])[i]? = some r → (i = rs.length ∧ r = ((k : Int), (k : Int) + 1, sgnQ s)) ∨ (i < rs.length ∧ rs[i]? = some r) := by
          intro i r h
          have hi := (List.getElem?_eq_some_iff.1 h).1
          rw [List.length_append, List.length_singleton] at hi
          rcases Nat.lt_or_ge i rs.length with hlt | hge
          · rw [List.getElem?_append_left hlt] at h
            exact Or.inr ⟨hlt, h⟩
          · obtain rfl : i = rs.length := by omega
            rw [List.getElem?_append_right (Nat.le_refl _), Nat.sub_self, List.getElem?_cons_zero] at h
            exact Or.inl ⟨rfl, by simpa using h.symm⟩
        refine ⟨fun r h => ?_, fun r h => ?_, fun i r h => ?_, fun i r h j q h1 h2 h3 => ?_, fun i r t h1 h2 => ?_⟩
        · rcases get _ _ h with ⟨e, rfl⟩ | ⟨e, h'⟩
          · omega
          · exact ih.first _ h'
        · rw [List.length_append, List.length_singleton] at h
          rcases get _ _ h with ⟨e, rfl⟩ | ⟨e, h'⟩
          · simp
          · omega
        · rcases get _ _ h with ⟨e, rfl⟩ | ⟨e, h'⟩
          · simp only; omega
          · have := ih.wide _ _ h'; omega
        · rcases get _ _ h with ⟨e, rfl⟩ | ⟨e, h'⟩
          · simp only at h1 h2 ⊢
            obtain rfl : j = k := by omega
            rw [hs] at h3; cases h3; rfl
          · exact ih.sign _ _ h' j q h1 h2 h3
        · rcases get _ _ h1 with ⟨e, rfl⟩ | ⟨e, h1'⟩
          · rcases get _ _ h2 with ⟨e2, -⟩ | ⟨e2, -⟩ <;> omega
          · rcases get _ _ h2 with ⟨e2, rfl⟩ | ⟨e2, h2'⟩
            · obtain rfl : i = rs.length - 1 := by omega
              rw [hl] at h1'; cases h1'
              exact ⟨hlast, hg⟩
            · exact ih.next _ _ _ h1' h2'

theorem step_bd {s : Q × Q} {y : Q} (h1 : okQ s.1.1 s.1.2 = true) (h2 : okQ s.2.1 s.2.2 = true) (hy : okQ y.1 y.2 = true) :
    (toR (stepI s y).1 ≤ toR s.1 ∧ toR (stepI s y).1 ≤ toR y) ∧ toR s.2 ≤ toR (stepI s y).2 ∧ toR y ≤ toR (stepI s y).2 := by
  have l1 := lessQ_iff (n1 := y.1) (n2 := s.1.1) (okQ_bd hy).1 (okQ_bd h1).1
  have l2 := lessQ_iff (n1 := s.2.1) (n2 := y.1) (okQ_bd h2).1 (okQ_bd hy).1
  unfold stepI lesserQ bigQ
  constructor
  · simp only
    split
    · rename_i h; have := l1.1 h; exact ⟨Rat.le_of_lt this, Rat.le_refl⟩
    · rename_i h; rw [l1] at h; exact ⟨Rat.le_refl, Rat.not_lt.1 h⟩
  · simp only
    split
    · rename_i h; have := l2.1 h; exact ⟨Rat.le_of_lt this, Rat.le_refl⟩
    · rename_i h; rw [l2] at h; exact ⟨Rat.le_refl, Rat.not_lt.1 h⟩
/-- The bounds of an image. -/
theorem foldI_bd : ∀ (l : List Q) (s : Q × Q), (∀ q ∈ l, okQ q.1 q.2 = true) → okQ s.1.1 s.1.2 = true → okQ s.2.1 s.2.2 = true →
    (toR (l.foldl stepI s).1 ≤ toR s.1 ∧ toR s.2 ≤ toR (l.foldl stepI s).2) ∧ ∀ q ∈ l, toR (l.foldl stepI s).1 ≤ toR q ∧ toR q ≤ toR (l.foldl stepI s).2
  | [], s, _, _, _ => ⟨⟨Rat.le_refl, Rat.le_refl⟩, by simp⟩
  | y :: l, s, h, h1, h2 => by
    have hy := h y List.mem_cons_self
    have hb := step_bd h1 h2 hy
    have ih := foldI_bd l (stepI s y) (fun q hq => h q (List.mem_cons_of_mem _ hq)) (lesserQ_ok h1 hy) (bigQ_ok h2 hy)
    rw [List.foldl_cons]
    refine ⟨⟨?_, ?_⟩, fun q hq => ?_⟩
    · have := ih.1.1; have := hb.1.1; grind
    · have := ih.1.2; have := hb.2.1; grind
    · rcases List.mem_cons.1 hq with rfl | hq
      · have := ih.1; have := hb.1.2; have := hb.2.2; grind
      · exact ih.2 q hq
theorem cmpQ_le {n1 d1 n2 d2 : Int} (h1 : 1 ≤ d1) (h2 : 1 ≤ d2) : cmpQ n1 d1 n2 d2 ≤ 0 ↔ toR (n1, d1) ≤ toR (n2, d2) := by
  rw [← Int.not_lt, cmpQ_gt h1 h2, Rat.not_lt]
structure Within (lo hi y : Q) : Prop where
  ok : okQ y.1 y.2 = true
  low : cmpQ lo.1 lo.2 y.1 y.2 ≤ 0
  high : cmpQ y.1 y.2 hi.1 hi.2 ≤ 0
structure ImgLaw (ps : List Pt) (a b lo hi : Q) : Prop where
  map : okMap ps = true
  ua : okQ a.1 a.2 = true
  ub : okQ b.1 b.2 = true
  ulo : okQ lo.1 lo.2 = true
  uhi : okQ hi.1 hi.2 = true
  ata : ∃ y1 y2, vaQ ps a = (y1, y2, true) ∧ Within lo hi (y1, y2)
  atb : ∃ y1 y2, vaQ ps b = (y1, y2, true) ∧ Within lo hi (y1, y2)
  mid : ∀ (i : Nat) (p : Pt), ps[i]? = some p → okQ p.1.1 p.1.2 = true ∧ okQ p.2.1 p.2.2 = true ∧ (cmpQ a.1 a.2 p.1.1 p.1.2 ≤ 0 → cmpQ p.1.1 p.1.2 b.1 b.2 ≤ 0 → Within lo hi p.2)
theorem img_law {ps : List Pt} {a b : Q} {k1 k2 k3 k4 : Int} (h : imageQ ps a b = (k1, k2, k3, k4, true)) : ImgLaw ps a b (k1, k2) (k3, k4) := by
  unfold imageQ at h
  split at h
  · rename_i hh
    obtain ⟨hm, hab⟩ := hh
    obtain ⟨ha, hb, -⟩ := okAB_parts hab
    unfold imgN at h
    split at h
    · rename_i hv
      rcases ea : valQ ps a with ⟨ya, ta⟩
      rcases eb : valQ ps b with ⟨yb, tb⟩
      rw [ea, eb] at h hv
      obtain ⟨rfl, rfl⟩ := hv
      have ka : okQ ya.1 ya.2 = true := by have := unitQ_ok (valQ_unit hm ha); rw [ea] at this; exact this
      have kb : okQ yb.1 yb.2 = true := by have := unitQ_ok (valQ_unit hm hb); rw [eb] at this; exact this
      have hl : ∀ q ∈ imgL ps a b, okQ q.1 q.2 = true := by have := imgL_ok hm a b ps.length; rwa [List.take_length] at this
      have s1 := step_bd (s := (ya, ya)) ka ka kb
      have hbd := foldI_bd (imgL ps a b) (stepI (ya, ya) yb) hl (lesserQ_ok ka kb) (bigQ_ok ka kb)
      have hok := imgS_ok ka kb hl
      simp only at h
      change _ = (k1, k2, k3, k4, true) at h
      have e1 := (Prod.mk.inj h).1
      have e2 := (Prod.mk.inj (Prod.mk.inj h).2).1
      have e3 := (Prod.mk.inj (Prod.mk.inj (Prod.mk.inj h).2).2).1
      have e4 := (Prod.mk.inj (Prod.mk.inj (Prod.mk.inj (Prod.mk.inj h).2).2).2).1
      change (toR (imgS ya yb (imgL ps a b)).1 ≤ _ ∧ _ ≤ toR (imgS ya yb (imgL ps a b)).2) ∧ _ at hbd
      have hbd2 : ∀ q ∈ imgL ps a b, toR (imgS ya yb (imgL ps a b)).1 ≤ toR q ∧ toR q ≤ toR (imgS ya yb (imgL ps a b)).2 := hbd.2
      have hbd1 := hbd.1
      clear hbd h
      generalize imgS ya yb (imgL ps a b) = S at *
      obtain ⟨⟨s1', s2'⟩, s3', s4'⟩ := S
      simp only at e1 e2 e3 e4 hok
      subst e1; subst e2; subst e3; subst e4
      have within : ∀ y : Q, okQ y.1 y.2 = true → toR (s1', s2') ≤ toR y → toR y ≤ toR (s3', s4') → Within (s1', s2') (s3', s4') y := fun y ky y1 y2 =>
        ⟨ky, (cmpQ_le (okQ_bd hok.1).1 (okQ_bd ky).1).2 y1, (cmpQ_le (okQ_bd ky).1 (okQ_bd hok.2).1).2 y2⟩
      have wa : Within (s1', s2') (s3', s4') ya := within ya ka (by have := s1.1.1; have := hbd1.1; grind) (by have := s1.2.1; have := hbd1.2; grind)
      have wb : Within (s1', s2') (s3', s4') yb := within yb kb (by have := s1.1.2; have := hbd1.1; grind) (by have := s1.2.2; have := hbd1.2; grind)
      refine ⟨hm, unitQ_ok ha, unitQ_ok hb, hok.1, hok.2, ⟨ya.1, ya.2, vaQ_of hm ha ea, wa⟩, ⟨yb.1, yb.2, vaQ_of hm hb eb, wb⟩, fun i p hp => ?_⟩
      have hc := okMap_coord hm hp
      have kx := unitQ_ok (coordQ_unit hc.1)
      have ky := unitQ_ok (coordQ_unit hc.2)
      refine ⟨kx, ky, fun c1 c2 => ?_⟩
      have c1' := (cmpQ_le (okQ_bd (unitQ_ok ha)).1 (okQ_bd kx).1).1 c1
      have c2' := (cmpQ_le (okQ_bd kx).1 (okQ_bd (unitQ_ok hb)).1).1 c2
      by_cases ea' : toR a = toR p.1
      · have e : a = p.1 := toR_inj (unitQ_ok ha) kx ea'
        rw [e, valQ_point hm hp] at ea
        rw [← (Prod.mk.inj ea).1] at wa
        exact wa
      · by_cases eb' : toR b = toR p.1
        · have e : b = p.1 := toR_inj (unitQ_ok hb) kx eb'
          rw [e, valQ_point hm hp] at eb
          rw [← (Prod.mk.inj eb).1] at wb
          exact wb
        · have hin : inQ a b p = true := by
            unfold inQ
            rw [Bool.and_eq_true]
            have x1 := (lessQ_iff (n1 := a.1) (n2 := p.1.1) (okQ_bd (unitQ_ok ha)).1 (okQ_bd kx).1).2 (by show toR a < toR p.1; change toR a ≤ toR p.1 at c1'; grind)
            have x2 := (lessQ_iff (n1 := p.1.1) (n2 := b.1) (okQ_bd kx).1 (okQ_bd (unitQ_ok hb)).1).2 (by show toR p.1 < toR b; change toR p.1 ≤ toR b at c2'; grind)
            exact ⟨x1, x2⟩
          have hmem : p.2 ∈ imgL ps a b := List.mem_map.2 ⟨p, List.mem_filter.2 ⟨List.mem_of_getElem? hp, hin⟩, rfl⟩
          have := hbd2 _ hmem
          exact within _ ky this.1 this.2
    · simp at h
  · simp at h
/-- All that the law says of laps. -/
structure LapLaw (ps : List Pt) (rs : List Row3) (sl tu : List Q) : Prop where
  pos : 0 < rs.length
  two : 2 ≤ ps.length
  slen : sl.length = ps.length - 1
  tlen : tu.length = rs.length - 1
  first : ∀ r, rs[0]? = some r → r.1 = 0
  last : ∀ r, rs[rs.length - 1]? = some r → r.2.1 = (ps.length : Int) - 1
  wide : ∀ (i : Nat) (r : Row3), rs[i]? = some r → 0 ≤ r.1 ∧ r.1 < r.2.1 ∧ r.2.1 ≤ (ps.length : Int) - 1
  sign : ∀ (i : Nat) (r : Row3), rs[i]? = some r → ∀ (j : Nat) (s : Q), r.1 ≤ j → (j : Int) < r.2.1 → sl[j]? = some s → decide (0 < s.1) = (r.2.2 == 1) ∧ decide (s.1 < 0) = (r.2.2 == -1)
  next : ∀ (i : Nat) (r t : Row3), rs[i]? = some r → rs[i + 1]? = some t → r.2.1 = t.1 ∧ r.2.2 ≠ t.2.2
  turn : ∀ (i : Nat) (t : Row3) (q : Q) (p : Pt), rs[i + 1]? = some t → tu[i]? = some q → ps[t.1.toNat]? = some p → q = p.1
theorem lap_law {ps : List Pt} {rs : List Row3} {sl tu : List Q} {t t2 t3 : Bool} (h1 : lapsOfQ ps = (rs, t)) (h2 : slopesOfQ ps = (sl, t2)) (h3 : turnsQ ps = (tu, t3)) :
    t2 = t ∧ t3 = t ∧ (t = true → LapLaw ps rs sl tu) ∧ (t = false → rs = [] ∧ sl = [] ∧ tu = []) := by
  unfold lapsOfQ at h1
  unfold slopesOfQ at h2
  unfold turnsQ at h3
  by_cases hm : okMap ps = true
  · rw [if_pos hm] at h1 h2 h3
    obtain ⟨rfl, rfl⟩ := Prod.mk.inj h1
    obtain ⟨rfl, rfl⟩ := Prod.mk.inj h2
    obtain ⟨rfl, rfl⟩ := Prod.mk.inj h3
    refine ⟨rfl, rfl, fun _ => ?_, by simp⟩
    have hl := okMap_len hm
    have hp := lapsQ_pos (ps := ps) hl.1
    have ht := lapTo (slopesQ ps) (ps.length - 1) (by rw [slopesQ_len]; omega)
    have e : lapN (slopesQ ps) (ps.length - 1) = lapsQ ps := rfl
    rw [e] at ht
    have hc : ((ps.length - 1 : Nat) : Int) = (ps.length : Int) - 1 := by omega
    refine ⟨hp, hl.1, slopesQ_len ps, turnQ_len ps, ht.first, fun r h => by rw [← hc]; exact ht.last r h, fun i r h => by rw [← hc]; exact ht.wide i r h, fun i r h j s j1 j2 hs => ?_, ht.next, fun i t q p h1 h2 h3 => ?_⟩
    · have := ht.sign i r h j s j1 j2 hs
      rw [← this]
      unfold sgnQ
      rw [cmp_zero]
      split
      · rename_i hn
        rw [decide_eq_true hn, decide_eq_false (by omega)]; decide
      · rename_i hn
        split
        · rename_i hn2
          rw [decide_eq_false hn, decide_eq_true hn2]; decide
        · rename_i hn2
          rw [decide_eq_false hn, decide_eq_false hn2]; decide
    · obtain ⟨j, hj, hj2⟩ := lapsQ_row h1
      have hpj : ps[j]? = some p := by rw [hj] at h3; simpa using h3
      have := turnQ_get h1 hj hpj
      rw [this] at h2
      cases h2; rfl
  · rw [if_neg hm] at h1 h2 h3
    obtain ⟨rfl, rfl⟩ := Prod.mk.inj h1
    obtain ⟨rfl, rfl⟩ := Prod.mk.inj h2
    obtain ⟨rfl, rfl⟩ := Prod.mk.inj h3
    exact ⟨rfl, rfl, by simp, fun _ => ⟨rfl, rfl, rfl⟩⟩
end Go.Proofs.Ytkeajfgcjmhmiaa
