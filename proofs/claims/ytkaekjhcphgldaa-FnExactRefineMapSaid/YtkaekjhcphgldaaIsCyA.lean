/- The reference's IsCycle. -/
import Derived.Test.YtkaekjhcphgldaaRisE
import Derived.Test.YtkaekjhcphgldaaPer
import Derived.Test.YtkaekjhcphgldaaBefC
namespace Go.Proofs.Ytkaekjhcphgldaa
open Go.RowKit

theorem insQ_in {x : Q} {l : List Q} (hl : OkL l) (hu : UpQ l) (hx : x ∈ l) : insQ x l = l :=
  up_uniq (insQ_up (hl x hx) hl hu) hu (fun y => by rw [insQ_mem]; exact ⟨fun h => by
    rcases h with h | h
    · rw [h]; exact hx
    · exact h, Or.inr⟩)
theorem insQ_out {x : Q} : ∀ {l : List Q}, x ∉ l → (insQ x l).length = l.length + 1
  | [], _ => rfl
  | y :: r, h => by
    unfold insQ
    split
    · rw [List.length_cons, List.length_cons, insQ_out (fun h2 => h (List.mem_cons_of_mem _ h2))]
    · split
      · rename_i e; exact absurd (by rw [e]; exact List.mem_cons_self) h
      · rfl
def setTo (cs : List Q) (k : Nat) : List Q := setQ (cs.take k)
def diffTo (cs : List Q) (k : Nat) : Bool := decide (∀ i < k, ∀ x, cs[i]? = some x → x ∉ cs.take i)
theorem setTo_next {cs : List Q} {k : Nat} {x : Q} (h : cs[k]? = some x) : setTo cs (k + 1) = insQ x (setTo cs k) := by
  unfold setTo setQ; rw [take_snoc_get h, List.foldl_append]; rfl
theorem diffTo_next {cs : List Q} {k : Nat} {x : Q} (h : cs[k]? = some x) : diffTo cs (k + 1) = (diffTo cs k && decide (x ∉ cs.take k)) := by
  unfold diffTo
  rw [Bool.eq_iff_iff, Bool.and_eq_true, decide_eq_true_iff, decide_eq_true_iff, decide_eq_true_iff]
  constructor
  · exact fun h2 => ⟨fun i hi y hy => h2 i (by omega) y hy, h2 k (by omega) x h⟩
  · rintro ⟨h2, h3⟩ i hi y hy
    by_cases e : i = k
    · subst e; rw [h] at hy; cases hy; exact h3
    · exact h2 i (by omega) y hy
theorem setTo_len {cs : List Q} (ho : OkL cs) : ∀ k, k ≤ cs.length → (setTo cs k).length ≤ k ∧ ((setTo cs k).length = k ↔ diffTo cs k = true)
  | 0, _ => by unfold setTo diffTo setQ; simp
  | k + 1, hk => by
    have hx := List.getElem?_eq_getElem (show k < cs.length by omega)
    obtain ⟨h1, h2⟩ := setTo_len ho k (by omega)
    have hok : OkL (cs.take k) := fun q hq => ho q (List.mem_of_mem_take hq)
    have hmem : ∀ q, q ∈ setTo cs k ↔ q ∈ cs.take k := fun q => by unfold setTo; exact setQ_mem _ _
    have hup : UpQ (setTo cs k) := by unfold setTo; exact setQ_up hok
    rw [setTo_next hx, diffTo_next hx]
    by_cases hin : cs[k] ∈ cs.take k
    · rw [insQ_in (fun q hq => hok q ((hmem q).1 hq)) hup ((hmem _).2 hin)]
      refine ⟨by omega, ?_⟩
      rw [decide_eq_false (by simpa using hin), Bool.and_false]
      simp only [Bool.false_eq_true, iff_false]
      omega
    · rw [insQ_out (fun h => hin ((hmem _).1 h)), decide_eq_true hin, Bool.and_true, ← h2]
      exact ⟨by omega, by omega⟩
theorem diff_len {cs : List Q} (ho : OkL cs) : decide ((setQ cs).length = cs.length) = diffTo cs cs.length := by
  have h := (setTo_len ho cs.length (Nat.le_refl _)).2
  unfold setTo at h
  rw [List.take_length] at h
  rw [Bool.eq_iff_iff, decide_eq_true_iff]
  exact h
theorem atQ_of2 {ps : List Pt} {x : Q} {a b : Int} {t : Bool} (h : valQ ps x = ((a, b), t)) : ∃ c d, atQ ps x = (c, d, t) ∧ (t = true → c = a ∧ d = b) := by
  unfold atQ
  rw [h]
  cases t
  · exact ⟨0, 0, rfl, fun h => by cases h⟩
  · exact ⟨a, b, rfl, fun _ => ⟨rfl, rfl⟩⟩
def nextQ (cs : List Q) (k : Nat) : Option Q := cs[(k + 1) % cs.length]?
def eqTo (f : List Pt) (cs : List Q) (k : Nat) : Bool := decide (∀ i < k, ∀ x, cs[i]? = some x → some (valQ f x).1 = nextQ cs i)
theorem eqTo_next {f : List Pt} {cs : List Q} {k : Nat} {x : Q} (h : cs[k]? = some x) : eqTo f cs (k + 1) = (eqTo f cs k && decide (some (valQ f x).1 = nextQ cs k)) := by
  unfold eqTo
  rw [Bool.eq_iff_iff, Bool.and_eq_true, decide_eq_true_iff, decide_eq_true_iff, decide_eq_true_iff]
  constructor
  · exact fun h2 => ⟨fun i hi y hy => h2 i (by omega) y hy, h2 k (by omega) x h⟩
  · rintro ⟨h2, h3⟩ i hi y hy
    by_cases e : i = k
    · subst e; rw [h] at hy; cases hy; exact h3
    · exact h2 i (by omega) y hy
def fineC (f : List Pt) (cs : List Q) (k : Nat) : Bool := (cs.take k).all (fun x => (valQ f x).2)
theorem fineC_next {f : List Pt} {cs : List Q} {k : Nat} {x : Q} (h : cs[k]? = some x) : fineC f cs (k + 1) = (fineC f cs k && (valQ f x).2) := by
  unfold fineC; rw [take_snoc_get h, List.all_append]; simp
theorem fineC_not {f : List Pt} {cs : List Q} {k : Nat} (h : fineC f cs k = false) : fineC f cs cs.length = false := by
  unfold fineC at *
  rw [List.take_length]
  rw [List.all_eq_false] at *
  obtain ⟨x, hx, h2⟩ := h
  exact ⟨x, List.mem_of_mem_take hx, h2⟩
/-- What IsCycle gives. -/
def cycRes (f : List Pt) (cs : List Q) : Bool × Bool := if fineC f cs cs.length = true then (eqTo f cs cs.length && diffTo cs cs.length, true) else (false, false)
def cycAsk (f : List Pt) (cs : List Q) : Bool := okMap f && decide (1 ≤ cs.length ∧ cs.length ≤ 60) && cs.all (fun q => unitQ q.1 q.2)
def isCycQ (f : List Pt) (cs : List Q) : Bool × Bool := if cycAsk f cs = true then cycRes f cs else (false, false)
theorem idxQ_neg (l : List Q) (x : Q) : decide (idxQ l x < 0) = decide (x ∉ l) := by
  rw [Bool.eq_iff_iff, decide_eq_true_iff, decide_eq_true_iff]
  unfold idxQ
  cases h : l.findIdx? (fun y => decide (y = x)) with
  | none =>
    rw [List.findIdx?_eq_none_iff] at h
    simp only [Int.reduceLT, Int.reduceNeg, true_iff]
    intro hx
    have := h x hx
    simp at this
  | some i =>
    obtain ⟨h1, h2, -⟩ := List.findIdx?_eq_some_iff_getElem.1 h
    simp only [decide_eq_true_eq] at h2
    constructor
    · intro h3; simp at h3; omega
    · intro h3; exact absurd (by rw [← h2]; exact List.getElem_mem h1) h3

def RelOc (f : List Pt) (cs : List Q) (W0 : World) (s i : Value) (wr : World) : Prop :=
  ∃ k : Nat, k ≤ cs.length ∧ i = .int .i64 k ∧ s = .bool (eqTo f cs k && diffTo cs k) ∧ fineC f cs k = true ∧ Below W0.heap.size W0 wr

set_option maxRecDepth 100000 in
set_option maxHeartbeats 6400000 in
theorem orIsCycle_is (f : List Pt) (cs : List Q) (vf : Value) (g o cp : Nat) (a b : Bool) (hl : cycRes f cs = (a, b)) (w : World) (hf : RdP w vf f) (hc : RdQ w (.slice (some ⟨g, o, none⟩) cs.length cp) cs) (mf : okMap f = true) (hn : 1 ≤ cs.length ∧ cs.length ≤ 60) (hu : ∀ x ∈ cs, unitQ x.1 x.2 = true) :
    Calls Try.prog 56 #[vf, .slice (some ⟨g, o, none⟩) cs.length cp] w (fun e w' => e = .returned (.tuple #[.bool a, .bool b]) ∧ Below w.heap.size w w') := by
  have HF := Lib.hid hf
  have HL := Lib.hid hl
  have HMF := Lib.hid mf
  have HUn := Lib.hid hu
  have HCs := Lib.hid hc
  have hcell : ∀ i q, cs[i]? = some q → w.cell? ⟨g, o + i * 2, none⟩ = some (.int .i64 q.1) ∧ w.cell? ⟨g, o + i * 2 + 1, none⟩ = some (.int .i64 q.2) := by
    obtain ⟨A', c', he, h1, h2, h3⟩ := hc
    simp only [Value.slice.injEq] at he
    obtain ⟨rfl, -, rfl⟩ := he
    obtain ⟨g', o', he, hg, hcc⟩ := h3 (by rintro rfl; simp at hn)
    simp only [Option.some.injEq, Addr.mk.injEq, and_true] at he
    obtain ⟨rfl, rfl⟩ := he
    exact hcc
  have hcp : cs.length ≤ cp := by
    obtain ⟨A', c', he, h1, h2, h3⟩ := hc
    simp only [Value.slice.injEq] at he
    omega
  have HC := Lib.hid hcell
  clear hf hl mf hu hc hcell
  go_enter Try.func56, Try.ntmps56
  go_wp2_with fail
  go_loopw [6, 13] (fun s i wr => RelOc f cs w s i wr) (fun _ i _ => cs.length - (intOf i).toNat)
  case atStart => exact ⟨0, Nat.zero_le _, rfl, by unfold eqTo diffTo; simp, by unfold fineC; simp, Below.refl _ _⟩
  case round =>
    obtain ⟨k, hk2, rfl, rfl, hfi, hb⟩ := hrel
    have HFi := Lib.hid hfi
    clear hfi
    by_cases hlt : k < cs.length
    · have hx := List.getElem?_eq_getElem hlt
      generalize cs[k] = x at *
      have hj : (k + 1) % cs.length < cs.length := Nat.mod_lt _ (by omega)
      have hp := List.getElem?_eq_getElem hj
      have hne := eqTo_next (f := f) hx
      have hnd := diffTo_next hx
      have hnf := fineC_next (f := f) hx
      obtain ⟨c0, c1⟩ := HC.out k _ hx
      obtain ⟨d0, d1⟩ := HC.out _ _ hp
      unfold nextQ at hne
      rw [hp] at hne
      generalize cs[(k + 1) % cs.length] = p at *
      have ux := HUn.out _ (List.mem_of_getElem? hx)
      obtain ⟨x1, x2⟩ := x
      obtain ⟨p1, p2⟩ := p
      obtain ⟨⟨⟨y1, y2⟩, ty⟩, hy⟩ : ∃ r, valQ f (x1, x2) = r := ⟨_, rfl⟩
      simp only [hy, Option.some.injEq] at hne hnf
      obtain ⟨ya, yb, hya, hyt⟩ := atQ_of2 hy
      have HYa := Lib.hid hya
      have HYt := Lib.hid hyt
      have HUx := Lib.hid ux
      have HNe := Lib.hid hne
      have HNd := Lib.hid hnd
      have HNf := Lib.hid hnf
      have hix := idxQ_neg (cs.take k) (x1, x2)
      obtain ⟨ix, hixe⟩ : ∃ ix, idxQ (cs.take k) (x1, x2) = ix := ⟨_, rfl⟩
      rw [hixe] at hix
      have HIx := Lib.hid hixe
      have HIn := Lib.hid hix
      have HT := Lib.hid (RdQ.take HCs.out k hk2)
      replace c0 := cellB hb c0
      replace c1 := cellB hb c1
      replace d0 := cellB hb d0
      replace d1 := cellB hb d1
      have hjt : Int.tmod ((k : Int) + 1) (cs.length : Int) = (((k + 1) % cs.length : Nat) : Int) := by rw [Int.tmod_eq_emod_of_nonneg (by omega)]; simp
      generalize (k + 1) % cs.length = j at *
      have b0 : (0 : Int) ≤ (k : Int) := by omega
      have b1 : (k : Int) < (cs.length : Int) := by omega
      have b2 : (j : Int) < (cs.length : Int) := by omega
      have b3 : (0 : Int) ≤ (j : Int) := by omega
      have b4 : (k : Int) ≤ (cp : Int) := by omega
      have b5 : (cs.length : Int) ≠ 0 := by omega
      have b6 : cs ≠ [] := by rintro rfl; simp at hn
      have v2 : IntKind.i64.wrap ((k : Int) + 1) = (k : Int) + 1 := IntWalk.i64_in _ (by omega)
      have v3 : IntKind.i64.wrap (k : Int) = (k : Int) := IntWalk.i64_in _ (by omega)
      have v4 : IntKind.i64.wrap (j : Int) = (j : Int) := IntWalk.i64_in _ (by omega)
      clear hx hp ux hy hya hyt hne hnd hnf hix hixe
      go_wp2_with fail
      refine (imAt_is f _ x1 x2 ya yb ty _ (HF.out.keep (nextX hb (by go_grown))) HMF.out HUx.out HYa.out).mono ?_
      rintro e w2 ⟨rfl, hb'⟩
      have hX : Below wr.heap.size wr w2 := nextX (by go_grown) hb'
      have xb0 : w2.cell? ⟨wr.heap.size, 0, none⟩ = some (.int .i64 x1) := cellB hb' (by simp [go_sem])
      have xb1 : w2.cell? ⟨wr.heap.size, 1, none⟩ = some (.int .i64 x2) := cellB hb' (by simp [go_sem])
      replace d0 := cellB hX d0
      replace d1 := cellB hX d1
      have zx := lt_of_cell xb0
      have hb2 := nextW hb hX
      clear hb' hX c0 c1
      rcases ty with _ | _
      · have hno : fineC f cs cs.length = false := fineC_not (k := k + 1) (by rw [HNf.out, Bool.and_false])
        obtain ⟨rfl, rfl⟩ : false = a ∧ false = b := by have := HL.out; unfold cycRes at this; rw [hno] at this; exact Prod.mk.inj this
        go_wp2_with fail
        go_ret2
        exact ⟨rfl, nextX hb2 (by go_grown)⟩
      · obtain ⟨rfl, rfl⟩ := HYt.out rfl
        go_wp2_with fail
        go_name_world W4 hW4
        have hX4 : Below w2.heap.size w2 W4 := by rw [← hW4]; go_grown
        have yb0 : W4.cell? ⟨w2.heap.size, 0, none⟩ = some (.int .i64 ya) := by rw [← hW4]; simp [go_sem]
        have yb1 : W4.cell? ⟨w2.heap.size, 1, none⟩ = some (.int .i64 yb) := by rw [← hW4]; simp [go_sem]
        replace xb0 := cellB hX4 xb0
        replace xb1 := cellB hX4 xb1
        replace d0 := cellB hX4 d0
        replace d1 := cellB hX4 d1
        have hb4 := nextW hb2 hX4
        have HT4 := Lib.hid (HT.out.keep hb4)
        clear hW4 hX4 hb2
        rcases hs : (eqTo f cs k && diffTo cs k) with _ | _
        · have hf2 : (eqTo f cs (k + 1) && diffTo cs (k + 1)) = false := by
            rw [HNe.out, HNd.out]
            cases h1 : eqTo f cs k <;> cases h2 : diffTo cs k <;> simp [h1, h2] at hs ⊢
          have HF2 := Lib.hid hf2
          clear hf2
          refine wp_region_below (by kernel_rfl) (by kernel_rfl) ?_
          iterate 22 (first
            | (refine stepS rfl ?_; simp only [Act.put, List.setIfInBounds_toArray, List.set_cons_zero, List.set_cons_succ])
            | (refine stepV (v := ?_) rfl (fun W hW => ?_) ?_
               rotate_left
               focus
                 have qc0 := cellB hW.out xb0
                 have qc1 := cellB hW.out xb1
                 have qc2 := cellB hW.out yb0
                 have qc3 := cellB hW.out yb1
                 have qc4 := cellB hW.out d0
                 have qc5 := cellB hW.out d1
                 go_simp
                 try with_reducible rfl
                 done
               simp only [Act.put, List.setIfInBounds_toArray, List.set_cons_zero, List.set_cons_succ])
            | (refine stepC rfl (fun W hW => ?_) (fun W hW => callB hW (by have hh := orAt_is (cs.take k) _ x1 x2 _ (HT4.out.keep hW.out); rw [HIx.out] at hh; exact hh)) ?_
               focus
                 go_simp
                 try with_reducible rfl
                 done
               simp only [Act.put, List.setIfInBounds_toArray, List.set_cons_zero, List.set_cons_succ]))
          refine stepN ?_
          intro w5 hw5
          have hB2 := nextW hb4 hw5.out
          clear hw5 xb0 xb1 yb0 yb1 d0 d1
          go_wp2_with fail
          go_roundw
          case rel => exact ⟨k + 1, by omega, by go_num, by rw [HF2.out], by rw [HNf.out, HFi.out]; rfl, hB2⟩
          case measure => simp [intOf]; omega
        · have hk1 : eqTo f cs k = true ∧ diffTo cs k = true := by simpa using hs
          rcases eq_ways ya yb p1 p2 with ⟨e1, e2⟩ | e1 | ⟨e1, e2⟩
          · have hf2 : (eqTo f cs (k + 1) && diffTo cs (k + 1)) = decide (ix < 0) := by
              rw [HNe.out, HNd.out, hk1.1, hk1.2, HIn.out]
              simp only [beq_iff_eq] at e1 e2
              rw [e1, e2]
              simp
            have HF2 := Lib.hid hf2
            clear hf2
            refine wp_region_below (by kernel_rfl) (by kernel_rfl) ?_
            iterate 22 (first
              | (refine stepS rfl ?_; simp only [Act.put, List.setIfInBounds_toArray, List.set_cons_zero, List.set_cons_succ])
              | (refine stepV (v := ?_) rfl (fun W hW => ?_) ?_
                 rotate_left
                 focus
                   have qc0 := cellB hW.out xb0
                   have qc1 := cellB hW.out xb1
                   have qc2 := cellB hW.out yb0
                   have qc3 := cellB hW.out yb1
                   have qc4 := cellB hW.out d0
                   have qc5 := cellB hW.out d1
                   go_simp
                   try with_reducible rfl
                   done
                 simp only [Act.put, List.setIfInBounds_toArray, List.set_cons_zero, List.set_cons_succ])
              | (refine stepC rfl (fun W hW => ?_) (fun W hW => callB hW (by have hh := orAt_is (cs.take k) _ x1 x2 _ (HT4.out.keep hW.out); rw [HIx.out] at hh; exact hh)) ?_
                 focus
                   go_simp
                   try with_reducible rfl
                   done
                 simp only [Act.put, List.setIfInBounds_toArray, List.set_cons_zero, List.set_cons_succ]))
            refine stepN ?_
            intro w5 hw5
            have hB2 := nextW hb4 hw5.out
            clear hw5 xb0 xb1 yb0 yb1 d0 d1
            go_wp2_with fail
            go_roundw
            case rel => exact ⟨k + 1, by omega, by go_num, by rw [HF2.out], by rw [HNf.out, HFi.out]; rfl, hB2⟩
            case measure => simp [intOf]; omega
          · have hf2 : (eqTo f cs (k + 1) && diffTo cs (k + 1)) = false := by
              rw [HNe.out, decide_eq_false (by intro h; cases h; simp at e1)]
              simp
            have HF2 := Lib.hid hf2
            clear hf2
            refine wp_region_below (by kernel_rfl) (by kernel_rfl) ?_
            iterate 22 (first
              | (refine stepS rfl ?_; simp only [Act.put, List.setIfInBounds_toArray, List.set_cons_zero, List.set_cons_succ])
              | (refine stepV (v := ?_) rfl (fun W hW => ?_) ?_
                 rotate_left
                 focus
                   have qc0 := cellB hW.out xb0
                   have qc1 := cellB hW.out xb1
                   have qc2 := cellB hW.out yb0
                   have qc3 := cellB hW.out yb1
                   have qc4 := cellB hW.out d0
                   have qc5 := cellB hW.out d1
                   go_simp
                   try with_reducible rfl
                   done
                 simp only [Act.put, List.setIfInBounds_toArray, List.set_cons_zero, List.set_cons_succ])
              | (refine stepC rfl (fun W hW => ?_) (fun W hW => callB hW (by have hh := orAt_is (cs.take k) _ x1 x2 _ (HT4.out.keep hW.out); rw [HIx.out] at hh; exact hh)) ?_
                 focus
                   go_simp
                   try with_reducible rfl
                   done
                 simp only [Act.put, List.setIfInBounds_toArray, List.set_cons_zero, List.set_cons_succ]))
            refine stepN ?_
            intro w5 hw5
            have hB2 := nextW hb4 hw5.out
            clear hw5 xb0 xb1 yb0 yb1 d0 d1
            go_wp2_with fail
            go_roundw
            case rel => exact ⟨k + 1, by omega, by go_num, by rw [HF2.out], by rw [HNf.out, HFi.out]; rfl, hB2⟩
            case measure => simp [intOf]; omega
          · have hf2 : (eqTo f cs (k + 1) && diffTo cs (k + 1)) = false := by
              rw [HNe.out, decide_eq_false (by intro h; cases h; simp at e2)]
              simp
            have HF2 := Lib.hid hf2
            clear hf2
            refine wp_region_below (by kernel_rfl) (by kernel_rfl) ?_
            iterate 22 (first
              | (refine stepS rfl ?_; simp only [Act.put, List.setIfInBounds_toArray, List.set_cons_zero, List.set_cons_succ])
              | (refine stepV (v := ?_) rfl (fun W hW => ?_) ?_
                 rotate_left
                 focus
                   have qc0 := cellB hW.out xb0
                   have qc1 := cellB hW.out xb1
                   have qc2 := cellB hW.out yb0
                   have qc3 := cellB hW.out yb1
                   have qc4 := cellB hW.out d0
                   have qc5 := cellB hW.out d1
                   go_simp
                   try with_reducible rfl
                   done
                 simp only [Act.put, List.setIfInBounds_toArray, List.set_cons_zero, List.set_cons_succ])
              | (refine stepC rfl (fun W hW => ?_) (fun W hW => callB hW (by have hh := orAt_is (cs.take k) _ x1 x2 _ (HT4.out.keep hW.out); rw [HIx.out] at hh; exact hh)) ?_
                 focus
                   go_simp
                   try with_reducible rfl
                   done
                 simp only [Act.put, List.setIfInBounds_toArray, List.set_cons_zero, List.set_cons_succ]))
            refine stepN ?_
            intro w5 hw5
            have hB2 := nextW hb4 hw5.out
            clear hw5 xb0 xb1 yb0 yb1 d0 d1
            go_wp2_with fail
            go_roundw
            case rel => exact ⟨k + 1, by omega, by go_num, by rw [HF2.out], by rw [HNf.out, HFi.out]; rfl, hB2⟩
            case measure => simp [intOf]; omega
    · obtain rfl : k = cs.length := by omega
      obtain ⟨rfl, rfl⟩ : (eqTo f cs cs.length && diffTo cs cs.length) = a ∧ true = b := by have := HL.out; unfold cycRes at this; rw [if_pos HFi.out] at this; exact Prod.mk.inj this
      go_wp2_with fail
      go_ret2
      exact ⟨rfl, hb⟩

def RelUs (cs : List Q) (W0 : World) (i : Value) (wr : World) : Prop := ∃ k : Nat, k ≤ cs.length ∧ i = .int .i64 k ∧ (∀ (j : Nat) (x : Q), j < k → cs[j]? = some x → unitQ x.1 x.2 = true) ∧ Below W0.heap.size W0 wr
theorem ask_no1 {f : List Pt} {cs : List Q} (h : okMap f = false) : cycAsk f cs = false := by unfold cycAsk; rw [h]; rfl
theorem ask_no2 {f : List Pt} {cs : List Q} (h : ¬ (1 ≤ cs.length ∧ cs.length ≤ 60)) : cycAsk f cs = false := by unfold cycAsk; rw [decide_eq_false h, Bool.and_false]; rfl
theorem ask_no3 {f : List Pt} {cs : List Q} {x : Q} (hx : x ∈ cs) (h : unitQ x.1 x.2 = false) : cycAsk f cs = false := by
  unfold cycAsk
  rw [show cs.all (fun q => unitQ q.1 q.2) = false from List.all_eq_false.2 ⟨x, hx, by rw [h]; simp⟩, Bool.and_false]
theorem isCyc_no {f : List Pt} {cs : List Q} {a b : Bool} (hl : isCycQ f cs = (a, b)) (h : cycAsk f cs = false) : false = a ∧ false = b := by
  unfold isCycQ at hl; rw [h] at hl; exact Prod.mk.inj hl

set_option maxHeartbeats 3200000 in
theorem sIsCycle_is (f : List Pt) (cs : List Q) (vf vc : Value) (a b : Bool) (hl : isCycQ f cs = (a, b)) (w : World) (hf : RdP w vf f) (hc : RdQ w vc cs) (hn : f.length ≤ 1048576) (hk : cs.length ≤ 1048576) :
    Calls Try.prog 27 #[vf, vc] w (fun e w' => e = .returned (.tuple #[.bool a, .bool b]) ∧ Below w.heap.size w w') := by
  have HF := Lib.hid hf
  rcases hm : okMap f with _ | _
  · obtain ⟨rfl, rfl⟩ := isCyc_no hl (ask_no1 hm)
    have HM := Lib.hid hm
    clear hf hc hl hm
    go_enter Try.func27, Try.ntmps27
    go_wp2_with fail
    refine (imGood_is f _ false _ (HF.out.keep (by go_grown)) hn HM.out).mono ?_
    rintro e w1 ⟨rfl, hb⟩
    go_wp2_with fail
    go_ret2
    exact ⟨rfl, hb⟩
  · have HM := Lib.hid hm
    have HC0 := Lib.hid hc
    obtain ⟨A, cc, rfl, hcl, hcm, hcell⟩ := hc
    unfold maxLen at hcm
    by_cases hlen : 1 ≤ cs.length ∧ cs.length ≤ 60
    · obtain ⟨g, o, rfl, hg, hcc⟩ := hcell (by rintro rfl; simp at hlen)
      have HC := Lib.hid hcc
      have HL := Lib.hid hl
      clear hf hl hm hcell hcc
      go_enter Try.func27, Try.ntmps27
      go_wp2_with fail
      refine (imGood_is f _ true _ (HF.out.keep (by go_grown)) hn HM.out).mono ?_
      rintro e w1 ⟨rfl, hb⟩
      have hB : Below w.heap.size w w1 := hb
      clear hb
      go_wp2_with fail
      refine (l1In_yes _ 1 60 (by omega) (by omega) _).mono ?_
      rintro e w2 ⟨rfl, h2⟩
      subst h2
      go_wp2_with fail
      go_name_world W0 hW
      rw [hW] at hB
      clear hW
      go_loopw [19] (fun i wr => RelUs cs W0 i wr) (fun i _ => cs.length - (intOf i).toNat)
      case atStart => exact ⟨0, Nat.zero_le _, rfl, fun j x hj => absurd hj (Nat.not_lt_zero _), Below.refl _ _⟩
      case round =>
        obtain ⟨k, hk2, rfl, hun, hb⟩ := hrel
        have HUn := Lib.hid hun
        have hBr := nextW hB hb
        clear hun
        by_cases hlt : k < cs.length
        · have hx := List.getElem?_eq_getElem hlt
          generalize cs[k] = x at *
          obtain ⟨c0, c1⟩ := HC.out k _ hx
          have HX := Lib.hid hx
          replace c0 := cellB hBr c0
          replace c1 := cellB hBr c1
          obtain ⟨x1, x2⟩ := x
          obtain ⟨ux, hux⟩ : ∃ u, unitQ x1 x2 = u := ⟨_, rfl⟩
          have HU := Lib.hid hux
          have b0 : (0 : Int) ≤ (k : Int) := by omega
          have b1 : (k : Int) < (cs.length : Int) := by omega
          have v2 : IntKind.i64.wrap ((k : Int) + 1) = (k : Int) + 1 := IntWalk.i64_in _ (by omega)
          have v3 : IntKind.i64.wrap (k : Int) = (k : Int) := IntWalk.i64_in _ (by omega)
          clear hx hux
          go_wp2_with fail
          refine (raUnit_any x1 x2 _).mono ?_
          rintro e w5 ⟨he, hb5⟩
          rw [HU.out] at he
          subst he
          have hX : Below wr.heap.size wr w5 := nextX (by go_grown) hb5
          have hB5 := nextW hb hX
          have hB6 := nextW hBr hX
          clear hb5 hX c0 c1
          rcases ux with _ | _
          · obtain ⟨rfl, rfl⟩ := isCyc_no HL.out (ask_no3 (List.mem_of_getElem? HX.out) HU.out)
            go_wp2_with fail
            go_ret2
            exact ⟨rfl, hB6⟩
          · go_wp2_with fail
            go_roundw
            case rel =>
              refine ⟨k + 1, by omega, by go_num, fun j y hj hy => ?_, hB5⟩
              by_cases e : j = k
              · subst e; rw [HX.out] at hy; cases hy; exact HU.out
              · exact HUn.out j y (by omega) hy
            case measure => simp [intOf]; omega
        · obtain rfl : k = cs.length := by omega
          have hall : ∀ x ∈ cs, unitQ x.1 x.2 = true := fun x hx => by
            obtain ⟨i, hi⟩ := List.getElem?_of_mem hx
            exact HUn.out i x (List.getElem?_eq_some_iff.1 hi).1 hi
          have hask : cycAsk f cs = true := by
            unfold cycAsk
            rw [HM.out, decide_eq_true hlen, List.all_eq_true.2 hall]; rfl
          have hres : cycRes f cs = (a, b) := by have := HL.out; unfold isCycQ at this; rwa [if_pos hask] at this
          go_wp2_with fail
          refine (orIsCycle_is f cs _ g o cc a b hres _ (HF.out.keep (nextX hBr (by go_grown))) (HC0.out.keep (nextX hBr (by go_grown))) HM.out hlen hall).mono ?_
          rintro e w5 ⟨rfl, hb5⟩
          have hB6 := nextW hBr (nextX (by go_grown) hb5 : Below wr.heap.size wr w5)
          go_wp2_with fail
          go_ret2
          exact ⟨rfl, hB6⟩
    · obtain ⟨rfl, rfl⟩ := isCyc_no hl (ask_no2 hlen)
      clear hf hl hm hcell
      go_enter Try.func27, Try.ntmps27
      go_wp2_with fail
      refine (imGood_is f _ true _ (HF.out.keep (by go_grown)) hn HM.out).mono ?_
      rintro e w1 ⟨rfl, hb⟩
      have hB : Below w.heap.size w w1 := hb
      clear hb
      go_wp2_with fail
      refine (l1In_no _ 1 60 (by omega) _).mono ?_
      rintro e w2 ⟨rfl, h2⟩
      subst h2
      go_wp2_with fail
      go_ret2
      exact ⟨rfl, hB⟩

end Go.Proofs.Ytkaekjhcphgldaa
