/- IsBelow of both. · made, finish, coIf: points made a simple map. -/
import Derived.Test.YtkeajfgcjmhmiaaGreatJ21
import Derived.Test.YtkeajfgcjmhmiaaGreatJ26
namespace Go.Proofs.YtkeajfgcjmhmiaaGreat
open Go.RowKit

def belB (f g : List Pt) (x : Q) : Bool := !lessQ (valQ g x).1.1 (valQ g x).1.2 (valQ f x).1.1 (valQ f x).1.2
def belTo (f g : List Pt) (k : Nat) : Bool := ((bothQ f g).take k).all (belB f g)
def fineTo2 (f g : List Pt) (k : Nat) : Bool := ((bothQ f g).take k).all (fineV f g)
theorem belTo_next {f g : List Pt} {k : Nat} {x : Q} (h : (bothQ f g)[k]? = some x) : belTo f g (k + 1) = (belTo f g k && belB f g x) := by
  unfold belTo; rw [take_snoc_get h, List.all_append]; simp
theorem fineTo2_next {f g : List Pt} {k : Nat} {x : Q} (h : (bothQ f g)[k]? = some x) : fineTo2 f g (k + 1) = (fineTo2 f g k && fineV f g x) := by
  unfold fineTo2; rw [take_snoc_get h, List.all_append]; simp
theorem fineTo2_all (f g : List Pt) : fineTo2 f g (bothQ f g).length = allFine f g := by unfold fineTo2 allFine; rw [List.take_length]
theorem belTo_not {f g : List Pt} {k : Nat} (h : belTo f g k = false) : (bothQ f g).all (belB f g) = false := by
  unfold belTo at h
  rw [List.all_eq_false] at h ⊢
  obtain ⟨x, hx, h2⟩ := h
  exact ⟨x, List.mem_of_mem_take hx, h2⟩
/-- What IsBelow gives. -/
def belowQ (f g : List Pt) : Bool × Bool := if (okMap f && okMap g) = true then (if allFine f g = true then ((bothQ f g).all (belB f g), true) else (false, false)) else (false, false)
theorem bothQ_pos {f g : List Pt} (h : okMap f = true) : 0 < (bothQ f g).length := by
  have hl := okMap_len h
  obtain ⟨p, hp⟩ : ∃ p, f[0]? = some p := ⟨_, List.getElem?_eq_getElem (by omega)⟩
  have : p.1 ∈ bothQ f g := by
    unfold bothQ
    rw [setQ_mem, List.mem_append]
    exact Or.inl (List.mem_map.2 ⟨p, List.mem_of_getElem? hp, rfl⟩)
  exact List.length_pos_of_mem this

def RelSb (f g : List Pt) (W0 : World) (i : Value) (wr : World) : Prop := ∃ k : Nat, k ≤ (bothQ f g).length ∧ i = .int .i64 k ∧ belTo f g k = true ∧ Below W0.heap.size W0 wr

set_option maxRecDepth 100000 in
set_option maxHeartbeats 1600000 in
theorem sIsBelow_is (f g : List Pt) (vf vg : Value) (a b : Bool) (hl : belowQ f g = (a, b)) (w : World) (hf : RdP w vf f) (hg : RdP w vg g) (hn : f.length ≤ 1048576) (hk : g.length ≤ 1048576) :
    Calls Tryz.prog 39 #[vf, vg] w (fun e w' => e = .returned (.tuple #[.bool a, .bool b]) ∧ Below w.heap.size w w') := by
  have HF := Lib.hid hf
  have HG := Lib.hid hg
  have HL := Lib.hid hl
  rcases hm : (okMap f && okMap g) with _ | _
  · obtain ⟨rfl, rfl⟩ : false = a ∧ false = b := by have := HL.out; unfold belowQ at this; rw [if_neg (by rw [hm]; simp)] at this; exact Prod.mk.inj this
    have HM := Lib.hid hm
    clear hf hg hl hm
    go_enter Tryz.func39, Tryz.ntmps39
    go_wp2_with fail
    refine (coTwo_is f g _ _ false HM.out _ (HF.out.keep (by go_grown)) (HG.out.keep (by go_grown)) hn hk).mono ?_
    rintro e w1 ⟨rfl, hb⟩
    go_wp2_with fail
    go_ret2
    exact ⟨rfl, hb⟩
  · have HM := Lib.hid hm
    have MF : okMap f = true := by simp at hm; exact hm.1
    have MG : okMap g = true := by simp at hm; exact hm.2
    have HMF := Lib.hid MF
    have HMG := Lib.hid MG
    have hpos := bothQ_pos (g := g) MF
    have l1 := okMap_len MF
    have l2 := okMap_len MG
    have hbl := bothQ_len f g
    have HUn := Lib.hid (bothQ_unit MF MG)
    obtain ⟨⟨ra, rb, t⟩, hcv⟩ : ∃ r, cvQ f g = r := ⟨_, rfl⟩
    have HCv := Lib.hid hcv
    clear hf hg hl hm MF MG hcv
    go_enter Tryz.func39, Tryz.ntmps39
    go_wp2_with fail
    refine (coTwo_is f g _ _ true HM.out _ (HF.out.keep (by go_grown)) (HG.out.keep (by go_grown)) hn hk).mono ?_
    rintro e w1 ⟨rfl, hb⟩
    have hB : Below w.heap.size w w1 := hb
    clear hb
    go_wp2_with fail
    refine (coValues_is f g _ _ ra rb t HCv.out w1 (HF.out.keep hB) (HG.out.keep hB) HMF.out HMG.out).mono ?_
    rintro e w2 ⟨r, s, rfl, owr, ows, hb⟩
    have hB2 := nextW hB hb
    clear hb
    rcases hfa : allFine f g with _ | _
    · obtain ⟨rfl, rfl, rfl⟩ : [] = ra ∧ [] = rb ∧ false = t := by have := HCv.out; unfold cvQ at this; rw [if_neg (by rw [hfa]; simp)] at this; simpa using this
      obtain ⟨rfl, rfl⟩ : false = a ∧ false = b := by have := HL.out; unfold belowQ at this; rw [if_pos HM.out, if_neg (by rw [hfa]; simp)] at this; exact Prod.mk.inj this
      clear owr ows
      go_wp2_with fail
      go_ret2
      exact ⟨rfl, hB2⟩
    · obtain ⟨rfl, rfl, rfl⟩ : valA f g = ra ∧ valB f g = rb ∧ true = t := by have := HCv.out; unfold cvQ at this; rw [if_pos hfa] at this; simpa using this
      have hab : ((bothQ f g).all (belB f g), true) = (a, b) := by have := HL.out; unfold belowQ at this; rwa [if_pos HM.out, if_pos hfa] at this
      obtain ⟨g1, cap1, rfl, hc1, hc2, -, hg1, hcell1⟩ := owr.lit (n := (bothQ f g).length) (by unfold valA; simp) hpos
      obtain ⟨g2, cap2, rfl, hd1, hd2, -, hg2, hcell2⟩ := ows.lit (n := (bothQ f g).length) (by unfold valB; simp) hpos
      unfold maxLen at hc2 hd2
      have HC1 := Lib.hid hcell1
      have HC2 := Lib.hid hcell2
      have HAB := Lib.hid hab
      clear owr ows hcell1 hcell2 hab
      go_wp2_with fail
      go_name_world W0 hW
      rw [hW] at HC1 HC2 hB2 hg1 hg2
      clear hW
      go_loopw [25] (fun i wr => RelSb f g W0 i wr) (fun i _ => (bothQ f g).length - (intOf i).toNat)
      case atStart => exact ⟨0, Nat.zero_le _, rfl, by unfold belTo; simp, Below.refl _ _⟩
      case round =>
        obtain ⟨k, hk2, rfl, hbe, hb⟩ := hrel
        have HBe := Lib.hid hbe
        have hBr := nextW hB2 hb
        clear hbe
        by_cases hlt : k < (bothQ f g).length
        · have hx := List.getElem?_eq_getElem hlt
          generalize (bothQ f g)[k] = x at *
          have hya : (valA f g)[k]? = some (valQ f x).1 := by unfold valA; rw [List.getElem?_map, hx]; rfl
          have hyb : (valB f g)[k]? = some (valQ g x).1 := by unfold valB; rw [List.getElem?_map, hx]; rfl
          have ux := HUn.out _ (List.mem_of_getElem? hx)
          have uf := valQ_unit (x := x) HMF.out ux
          have ug := valQ_unit (x := x) HMG.out ux
          have HNx := Lib.hid (belTo_next hx)
          have hbb : belB f g x = !lessQ (valQ g x).1.1 (valQ g x).1.2 (valQ f x).1.1 (valQ f x).1.2 := rfl
          obtain ⟨c0, c1⟩ := HC1.out k _ hya
          obtain ⟨d0, d1⟩ := HC2.out k _ hyb
          rcases hy : (valQ f x).1 with ⟨y1, y2⟩
          rcases hz : (valQ g x).1 with ⟨z1, z2⟩
          rw [hy] at c0 c1 uf hbb
          rw [hz] at d0 d1 ug hbb
          replace c0 := cellB hb c0
          replace c1 := cellB hb c1
          replace d0 := cellB hb d0
          replace d1 := cellB hb d1
          obtain ⟨v, hv⟩ : ∃ v, cmpQ y1 y2 z1 z2 = v := ⟨_, rfl⟩
          have HV := Lib.hid (fun W => raCmp_is y1 y2 z1 z2 v (Sm.of_ok (unitQ_ok uf)) (Sm.of_ok (unitQ_ok ug)) hv W)
          have hbv : belB f g x = !decide (0 < v) := by
            rw [hbb]
            have : lessQ z1 z2 y1 y2 = decide (cmpQ z1 z2 y1 y2 < 0) := lessQ_cmp _ _ _ _
            rw [this, cmpQ_swap y1 y2 z1 z2, hv]
            congr 1
            exact decide_eq_decide.2 (by omega)
          have HBv := Lib.hid hbv
          have b0 : (0 : Int) ≤ (k : Int) := by omega
          have b1 : (k : Int) < ((bothQ f g).length : Int) := by omega
          have v2 : IntKind.i64.wrap ((k : Int) + 1) = (k : Int) + 1 := IntWalk.i64_in _ (by omega)
          have v3 : IntKind.i64.wrap (k : Int) = (k : Int) := IntWalk.i64_in _ (by omega)
          have kL : Facts [(g1, k * 2, Value.int .i64 y1), (g1, k * 2 + 1, Value.int .i64 y2), (g2, k * 2, Value.int .i64 z1), (g2, k * 2 + 1, Value.int .i64 z2)] wr := ⟨c0, c1, d0, d1⟩
          clear hx hya hyb ux uf ug hbb hy hz c0 c1 d0 d1 hv hbv
          rcases Int.lt_or_le 0 v with h0 | h0
          · have hd : decide (0 < v) = true := by simpa using h0
            have hno : (bothQ f g).all (belB f g) = false := belTo_not (k := k + 1) (by rw [HNx.out, HBv.out, hd]; simp)
            obtain ⟨rfl, rfl⟩ : false = a ∧ true = b := by have := HAB.out; rw [hno] at this; exact Prod.mk.inj this
            go_wp2_with fail
            go_region_held3 (fun w' => w'.cell? ⟨g1, k * 2, none⟩ = some (.int .i64 y1) ∧ w'.cell? ⟨g1, k * 2 + 1, none⟩ = some (.int .i64 y2) ∧ w'.cell? ⟨g2, k * 2, none⟩ = some (.int .i64 z1) ∧ w'.cell? ⟨g2, k * 2 + 1, none⟩ = some (.int .i64 z2))
              ((refine Facts.keep kL ?_; go_grown; done))
              ((go_at_call 96; (with_reducible refine (HV.out _).mono ?_); rintro e w5 ⟨rfl, hb5⟩; have hX5 : Below wr.heap.size wr w5 := nextX (by go_grown) hb5))
            go_wp2_with fail
            go_ret2
            exact ⟨rfl, nextW hBr hX5⟩
          · have hd : decide (0 < v) = false := by simpa using h0
            have hbk : belTo f g (k + 1) = true := by rw [HNx.out, HBv.out, hd, HBe.out]; rfl
            have HBk := Lib.hid hbk
            clear hbk
            go_wp2_with fail
            go_region_held3 (fun w' => w'.cell? ⟨g1, k * 2, none⟩ = some (.int .i64 y1) ∧ w'.cell? ⟨g1, k * 2 + 1, none⟩ = some (.int .i64 y2) ∧ w'.cell? ⟨g2, k * 2, none⟩ = some (.int .i64 z1) ∧ w'.cell? ⟨g2, k * 2 + 1, none⟩ = some (.int .i64 z2))
              ((refine Facts.keep kL ?_; go_grown; done))
              ((go_at_call 96; (with_reducible refine (HV.out _).mono ?_); rintro e w5 ⟨rfl, hb5⟩; have hX5 : Below wr.heap.size wr w5 := nextX (by go_grown) hb5))
            have hB5 := nextW hb hX5
            go_wp2_with fail
            go_roundw
            case rel => exact ⟨k + 1, by omega, by go_num, HBk.out, hB5⟩
            case measure => simp [intOf]; omega
        · obtain rfl : k = (bothQ f g).length := by omega
          obtain ⟨rfl, rfl⟩ : true = a ∧ true = b := by
            have := HAB.out
            have h2 := HBe.out
            unfold belTo at h2
            rw [List.take_length] at h2
            rw [h2] at this
            exact Prod.mk.inj this
          go_wp2_with fail
          go_ret2
          exact ⟨rfl, hBr⟩

end Go.Proofs.YtkeajfgcjmhmiaaGreat

namespace Go.Proofs.YtkeajfgcjmhmiaaGreat
open Go.RowKit

theorem madeQ_of (l : List Pt) : madeQ l = if (made0 l).2 = true then ((made0 l).1, true) else ([], false) := by
  unfold madeQ made0
  by_cases h : l.any badPt = false
  · rw [if_pos h]
    by_cases h2 : okMap (simpleQ l) = true
    · rw [if_pos ⟨h, h2⟩, if_pos h2]
    · rw [if_neg (fun h3 => h2 h3.2), if_neg h2]
  · rw [if_neg h, if_neg (fun h3 => h h3.1)]; rfl
theorem made0_yes {l : List Pt} (h : l.any badPt = false) : made0 l = (simpleQ l, okMap (simpleQ l)) := by unfold made0; rw [if_pos h]
theorem made0_no {l : List Pt} (h : l.any badPt = true) : made0 l = ([], false) := by unfold made0; rw [if_neg (by rw [h]; simp)]
def RelCo (l : List Pt) (w : World) (i : Value) (wr : World) : Prop := ∃ k : Nat, k ≤ l.length ∧ i = .int .i64 k ∧ (∀ j p, j < k → l[j]? = some p → badPt p = false) ∧ Below w.heap.size w wr
theorem allGood {l : List Pt} (h : ∀ j p, j < l.length → l[j]? = some p → badPt p = false) : l.any badPt = false := by
  rw [List.any_eq_false]
  intro p hp
  obtain ⟨i, hi, rfl⟩ := List.getElem_of_mem hp
  rw [h i _ hi (List.getElem?_eq_getElem hi)]; simp
theorem oneBad {l : List Pt} {k : Nat} {p : Pt} (hp : l[k]? = some p) (h : badPt p = true) : l.any badPt = true := List.any_eq_true.2 ⟨p, List.mem_of_getElem? hp, h⟩

set_option maxHeartbeats 800000 in
theorem madeF (a b c d : Int) (w : World) :
    Calls Tryz.prog 184 #[.agg #[.int .i64 a, .int .i64 b, .int .i64 c, .int .i64 d]] w fun e w' => e = .returned (.bool (madeB ((a, b), c, d))) ∧ Below w.heap.size w w' := by
  rcases h : decide (100 < b) with _ | _
  · have n1 : ¬ (100 : Int) < b := by simpa using h
    have n2 : b ≤ (100 : Int) := by omega
    rcases h2 : decide (100 < d) with _ | _
    · have HX := Lib.hid (show madeB ((a, b), c, d) = false by simp [madeB, h, h2])
      have n3 : ¬ (100 : Int) < d := by simpa using h2
      go_enter Tryz.func184, Tryz.ntmps184
      go_wp2_with fail
      go_ret
      exact ⟨ret_bool HX.out.symm, by go_grown⟩
    · have HX := Lib.hid (show madeB ((a, b), c, d) = true by simp [madeB, h, h2])
      have n3 : (100 : Int) < d := by simpa using h2
      go_enter Tryz.func184, Tryz.ntmps184
      go_wp2_with fail
      go_ret
      exact ⟨ret_bool HX.out.symm, by go_grown⟩
  · have HX := Lib.hid (show madeB ((a, b), c, d) = true by simp [madeB, h])
    have n1 : (100 : Int) < b := by simpa using h
    go_enter Tryz.func184, Tryz.ntmps184
    go_wp2_with fail
    go_ret
    exact ⟨ret_bool HX.out.symm, by go_grown⟩

theorem madeF_says (l : List Pt) (w : World) : Says 184 #[] madeB l w := fun W p _ _ => madeF p.1.1 p.1.2 p.2.1 p.2.2 W

set_option maxHeartbeats 800000 in
theorem made_is (l : List Pt) (v : Value) (m : List Pt) (t : Bool) (hq : made0 l = (m, t)) (hj : Joined l) (w : World) (hv : RdP w v l) :
    Calls Tryz.prog 162 #[v] w (RetPB w m t) := by
  have HV := Lib.hid hv
  have HJ := Lib.hid hj
  rcases hb0 : l.any badPt with _ | _
  · rw [made0_yes hb0] at hq
    obtain ⟨rfl, ht⟩ := Prod.mk.inj hq
    have HT := Lib.hid ht
    have HB := Lib.hid hb0
    have HA := Lib.hid (show l.any madeB = false by rw [any_made hj.unit]; exact hb0)
    have hl2 := simpleQ_len l
    have hl3 := hj.len
    clear hv hj hq hb0 ht
    go_enter Tryz.func162, Tryz.ntmps162
    go_wp2_with fail
    refine (containsMade madeB l v _ (HV.out.keep (by go_grown)) (madeF_says _ _)).mono ?_
    rintro e w1 ⟨he, hb⟩
    rw [HA.out] at he
    subst he
    have hX : Below w.heap.size w w1 := nextX (by go_grown) hb
    have hB : Below w.heap.size w w1 := hX
    clear hb hX
    go_wp2_with fail
    have hz1 := hB.size
    refine (simple_is l v _ (HV.out.keep (nextX hB (by go_grown))) (riseC_of HJ.out.unit HJ.out.up HB.out) HJ.out.len).mono ?_
    rintro e w2 ⟨r, rfl, ow, hb⟩
    have hX : Below w1.heap.size w1 w2 := nextX (by go_grown) hb
    replace hB := nextW hB hX
    clear hb hX
    go_wp2_with fail
    refine (isMap_is (simpleQ l) r t _ (ow.read.keep (by go_grown)) (by omega) HT.out).mono ?_
    rintro e w3 ⟨rfl, hb⟩
    have hX : Below w2.heap.size w2 w3 := nextX (by go_grown) hb
    replace ow := ow.keep hX
    replace hB := nextW hB hX
    clear hb hX
    go_wp2_with fail
    go_ret2
    exact ⟨_, rfl, ow.low hz1, hB⟩
  · rw [made0_no hb0] at hq
    obtain ⟨rfl, rfl⟩ := Prod.mk.inj hq
    have HA := Lib.hid (show l.any madeB = true by rw [any_made hj.unit]; exact hb0)
    clear hv hj hq hb0
    go_enter Tryz.func162, Tryz.ntmps162
    go_wp2_with fail
    refine (containsMade madeB l v _ (HV.out.keep (by go_grown)) (madeF_says _ _)).mono ?_
    rintro e w1 ⟨he, hb⟩
    rw [HA.out] at he
    subst he
    have hX : Below w.heap.size w w1 := nextX (by go_grown) hb
    have hB : Below w.heap.size w w1 := hX
    clear hb hX
    go_wp2_with fail
    go_ret2
    exact ⟨_, rfl, World.ownsRow_nil _ _ _ _, hB⟩

set_option maxHeartbeats 800000 in
theorem finish_is (l : List Pt) (v : Value) (bad : Bool) (m : List Pt) (t : Bool) (gc : Nat) (hq : (if bad = true then ([], false) else madeQ l) = (m, t)) (hj : Joined l) (w : World) (hs : w.cell? ⟨gc, 0, none⟩ = some (.bool bad)) (hv : RdP w v l) :
    Calls Tryz.prog 107 #[.pointer (some ⟨gc, 0, none⟩), v] w (RetPB w m t) := by
  have HV := Lib.hid hv
  have HJ := Lib.hid hj
  rcases bad with _ | _
  · simp only [Bool.false_eq_true, if_false] at hq
    rw [madeQ_of] at hq
    rcases hm : made0 l with ⟨m1, t1⟩
    rw [hm] at hq
    have HM := Lib.hid hm
    rcases t1 with _ | _
    · simp only [Bool.false_eq_true, if_false] at hq
      obtain ⟨rfl, rfl⟩ := Prod.mk.inj hq
      clear hv hj hq hm
      go_enter Tryz.func107, Tryz.ntmps107
      go_wp2_with fail
      refine (made_is l v m1 false HM.out HJ.out _ (HV.out.keep (by go_grown))).mono ?_
      rintro e w1 ⟨r, rfl, ow, hb⟩
      have hX : Below w.heap.size w w1 := nextX (by go_grown) hb
      have hB : Below w.heap.size w w1 := hX
      clear hb hX
      go_wp2_with fail
      go_ret2
      exact ⟨_, rfl, World.ownsRow_nil _ _ _ _, hB⟩
    · simp only [if_true] at hq
      obtain ⟨rfl, rfl⟩ := Prod.mk.inj hq
      clear hv hj hq hm
      go_enter Tryz.func107, Tryz.ntmps107
      go_wp2_with fail
      refine (made_is l v m1 true HM.out HJ.out _ (HV.out.keep (by go_grown))).mono ?_
      rintro e w1 ⟨r, rfl, ow, hb⟩
      have hX : Below w.heap.size w w1 := nextX (by go_grown) hb
      have hB : Below w.heap.size w w1 := hX
      clear hb hX
      go_wp2_with fail
      go_ret2
      exact ⟨_, rfl, ow, hB⟩
  · simp only [if_true] at hq
    obtain ⟨rfl, rfl⟩ := Prod.mk.inj hq
    clear hv hj hq
    go_enter Tryz.func107, Tryz.ntmps107
    go_wp2_with fail
    go_ret2
    exact ⟨_, rfl, World.ownsRow_nil _ _ _ _, Below.refl _ _⟩

set_option maxHeartbeats 1600000 in
theorem coIf_is (l : List Pt) (v : Value) (m : List Pt) (t : Bool) (hq : madeQ l = (m, t)) (hj : Joined l) (w : World) (hv : RdP w v l) :
    Calls Tryz.prog 111 #[v] w (RetPB w m t) := by
  have HV := Lib.hid hv
  have HJ := Lib.hid hj
  have HQ := Lib.hid hq
  have hl3 := hj.len
  obtain ⟨A, c, rfl, hl, hm9, hcell⟩ := hv
  unfold maxLen at hm9
  have HC := Lib.hid hcell
  clear hcell hj hq
  go_enter Tryz.func111, Tryz.ntmps111
  go_wp2_with fail
  go_loopw [9] (fun i wr => RelCo l w i wr) (fun i _ => l.length - (intOf i).toNat)
  case atStart => exact ⟨0, Nat.zero_le _, rfl, fun _ _ h => absurd h (Nat.not_lt_zero _), Below.refl _ _⟩
  case round =>
    obtain ⟨k, hk, rfl, hgo, hb⟩ := hrel
    have hzr := hb.size
    have HG := Lib.hid hgo
    clear hgo
    by_cases hlt : k < l.length
    · obtain ⟨g, o, rfl, hg, hc⟩ := HC.out (by intro h; rw [h] at hlt; simp at hlt)
      have hp := List.getElem?_eq_getElem hlt
      obtain ⟨c0, c1, c2, c3⟩ := hc k _ hp
      generalize l[k] = p at *
      obtain ⟨⟨p1, p2⟩, p3, p4⟩ := p
      rw [← hb.cell (p := ⟨g, _, none⟩) hg] at c0 c1 c2 c3
      simp only at c0 c1 c2 c3
      have HP := Lib.hid hp
      clear hc hp HC
      rcases hx : coordQ p1 p2 with _ | _
      · have HX := Lib.hid hx
        have hq := HQ.out
        rw [madeQ_of, made0_no (oneBad HP.out (by simp [badPt, hx]))] at hq
        simp only [Bool.false_eq_true, if_false] at hq
        obtain ⟨rfl, rfl⟩ := Prod.mk.inj hq
        clear hq
        clear hx
        go_wp2_with fail
        refine (imCoord_is p1 p2 false HX.out _).mono ?_
        rintro e w1 ⟨rfl, hb1⟩
        have hB : Below w.heap.size w w1 := nextB (by go_grown) (by go_size) hb1
        clear hb1 c0 c1 c2 c3
        go_wp2_with fail
        go_ret2
        exact ⟨_, rfl, World.ownsRow_nil _ _ _ _, hB⟩
      · rcases hy : coordQ p3 p4 with _ | _
        · have HX := Lib.hid hx
          have HY := Lib.hid hy
          have hq := HQ.out
          rw [madeQ_of, made0_no (oneBad HP.out (by simp [badPt, hy]))] at hq
          simp only [Bool.false_eq_true, if_false] at hq
          obtain ⟨rfl, rfl⟩ := Prod.mk.inj hq
          clear hq
          clear hx hy
          go_wp2_with fail
          refine (imCoord_is p1 p2 true HX.out _).mono ?_
          rintro e w1 ⟨rfl, hb1⟩
          have hB : Below w.heap.size w w1 := nextB (by go_grown) (by go_size) hb1
          have d2 : w1.cell? ⟨wr.heap.size, 2, none⟩ = some (.int .i64 p3) := cellB hb1 (by simp [go_sem])
          have d3 : w1.cell? ⟨wr.heap.size, 3, none⟩ = some (.int .i64 p4) := cellB hb1 (by simp [go_sem])
          clear hb1 c0 c1 c2 c3
          go_wp2_with fail
          refine (imCoord_is p3 p4 false HY.out _).mono ?_
          rintro e w2 ⟨rfl, hb1⟩
          replace hB := nextW hB (nextX (by go_grown) hb1)
          clear hb1 d2 d3
          go_wp2_with fail
          go_ret2
          exact ⟨_, rfl, World.ownsRow_nil _ _ _ _, hB⟩
        · have HX := Lib.hid hx
          have HY := Lib.hid hy
          have HN := Lib.hid (show badPt ((p1, p2), p3, p4) = false by simp [badPt, hx, hy])
          clear hx hy
          go_wp2_with fail
          refine (imCoord_is p1 p2 true HX.out _).mono ?_
          rintro e w1 ⟨rfl, hb1⟩
          have hB : Below w.heap.size w w1 := nextB (by go_grown) (by go_size) hb1
          have d2 : w1.cell? ⟨wr.heap.size, 2, none⟩ = some (.int .i64 p3) := cellB hb1 (by simp [go_sem])
          have d3 : w1.cell? ⟨wr.heap.size, 3, none⟩ = some (.int .i64 p4) := cellB hb1 (by simp [go_sem])
          clear hb1 c0 c1 c2 c3
          go_wp2_with fail
          refine (imCoord_is p3 p4 true HY.out _).mono ?_
          rintro e w2 ⟨rfl, hb1⟩
          replace hB := nextW hB (nextX (by go_grown) hb1)
          clear hb1 d2 d3
          go_wp2_with fail
          go_roundw
          case rel => exact ⟨k + 1, by omega, by go_num, fun j p hj hp => by
              rcases Nat.lt_or_ge j k with h | h
              · exact HG.out j p h hp
              · obtain rfl : j = k := by omega
                have := HP.out; rw [hp] at this; cases this; exact HN.out, hB⟩
          case measure => simp [intOf]; omega
    · obtain rfl : k = l.length := by omega
      have hab := allGood HG.out
      have HAB := Lib.hid hab
      have hq := HQ.out
      rw [madeQ_of, made0_yes hab] at hq
      simp only at hq
      have hzl := simpleQ_len l
      rcases hm : okMap (simpleQ l) with _ | _
      · have HM := Lib.hid hm
        rw [hm] at hq
        simp only [Bool.false_eq_true, if_false] at hq
        obtain ⟨rfl, rfl⟩ := Prod.mk.inj hq
        clear hq hm hab
        go_wp2_with fail
        refine (coSimple_is l _ _ (HV.out.keep (by go_grown)) (riseC_of HJ.out.unit HJ.out.up HAB.out) HJ.out.len).mono ?_
        rintro e w1 ⟨r, rfl, ow, hb1⟩
        have hB : Below w.heap.size w w1 := nextB (by go_grown) (by go_size) hb1
        clear hb1
        go_wp2_with fail
        refine (imGood_is (simpleQ l) r false _ (ow.read.keep (by go_grown)) (by omega) HM.out).mono ?_
        rintro e w2 ⟨rfl, hb1⟩
        replace hB := nextW hB (nextX (by go_grown) hb1)
        clear hb1 ow
        go_wp2_with fail
        go_ret2
        exact ⟨_, rfl, World.ownsRow_nil _ _ _ _, hB⟩
      · have HM := Lib.hid hm
        rw [hm] at hq
        simp only [if_true] at hq
        obtain ⟨rfl, rfl⟩ := Prod.mk.inj hq
        clear hq hm hab
        go_wp2_with fail
        refine (coSimple_is l _ _ (HV.out.keep (by go_grown)) (riseC_of HJ.out.unit HJ.out.up HAB.out) HJ.out.len).mono ?_
        rintro e w1 ⟨r, rfl, ow, hb1⟩
        have hB : Below w.heap.size w w1 := nextB (by go_grown) (by go_size) hb1
        clear hb1
        go_wp2_with fail
        refine (imGood_is (simpleQ l) r true _ (ow.read.keep (by go_grown)) (by omega) HM.out).mono ?_
        rintro e w2 ⟨rfl, hb1⟩
        replace hB := nextW hB (nextX (by go_grown) hb1)
        have HO := Lib.hid ((ow.keep (nextX (by go_grown) hb1)).low (b := w.heap.size) hzr)
        clear hb1 ow
        go_wp2_with fail
        go_ret2
        exact ⟨_, rfl, HO.out, hB⟩

end Go.Proofs.YtkeajfgcjmhmiaaGreat
