/- ReflectMap: what it is; the reference's whole; the program's opposite. -/
import Derived.Test.YtkeajfgcjmhmiaaGreatDoorM11
import Derived.Test.YtkeajfgcjmhmiaaGreatDoorM36
namespace Go.Proofs.YtkeajfgcjmhmiaaGreatDoor
open Go.RowKit

def mirQ (q : Q) : Q := (q.2 - q.1, q.2)
def reflP (p : Pt) : Pt := (mirQ p.1, mirQ p.2)
def reflectQ (ps : List Pt) : List Pt := ps.reverse.map reflP
def reflMapQ (ps : List Pt) : List Pt × Bool := if okMap ps = true then (reflectQ ps, true) else ([], false)
theorem reflectQ_len (ps : List Pt) : (reflectQ ps).length = ps.length := by unfold reflectQ; simp
theorem reflectQ_get {ps : List Pt} {k : Nat} {p : Pt} (hk : k < ps.length) (hp : ps[ps.length - 1 - k]? = some p) : (reflectQ ps)[k]? = some (reflP p) := by
  unfold reflectQ
  rw [List.getElem?_map, List.getElem?_reverse hk, hp]; rfl
theorem reflMapQ_len {ps l : List Pt} {t : Bool} (h : reflMapQ ps = (l, t)) : l.length ≤ 1048576 := by
  unfold reflMapQ at h
  split at h
  · rename_i hh
    obtain ⟨rfl, -⟩ := Prod.mk.inj h
    have h1 := reflectQ_len ps
    have h3 := okMap_len hh
    omega
  · obtain ⟨rfl, -⟩ := Prod.mk.inj h; simp

/-- Appending one point at a step of a statement that draws its order. -/
theorem step_append_p {ops : Array Oper} {o : Oper} {a : Act} {K : Act → World → Prop} {Q' : Exit → Act → World → Prop} {E : Prop} (w : World) (hgd : o.guard = none) (s x : Operand)
    (ho : o.op = .call { callee := .builtin .append, args := #[s, x], argTypes := #[23, 23] })
    (base : Nat) (v : Value) (ps : List Pt) (hs : a.eval s = v) (hown : OwP base 41 w v ps)
    (g c : Nat) (x1 x2 y1 y2 : Int) (hx : a.eval x = .slice (some ⟨g, 0, none⟩) 1 c) (c0 : w.cell? ⟨g, 0, none⟩ = some (.int .i64 x1)) (c1 : w.cell? ⟨g, 1, none⟩ = some (.int .i64 x2)) (c2 : w.cell? ⟨g, 2, none⟩ = some (.int .i64 y1)) (c3 : w.cell? ⟨g, 3, none⟩ = some (.int .i64 y2))
    (hlen : ps.length ≤ 900000) (hbase : base ≤ w.heap.size)
    (h : ∀ v' w', OwP base 41 w' v' (ps ++ [((x1, x2), y1, y2)]) → Below base w w' → K (a.put o.dst v') w') :
    if Region.wanted o (yielded ops a.tmps) = true then Oper.wp Tryz.prog o a w K Q' else E := by
  obtain ⟨i, hi, hz, hsz, hb⟩ := info_parts Tryz.infoPa
  have hcell : ∀ j u, (rowP [((x1, x2), y1, y2)])[j]? = some u → w.cell? ((⟨g, 0, none⟩ : Addr).add j) = some u := by
    intro j u hj
    have hadd : (⟨g, 0, none⟩ : Addr).add j = ⟨g, j, none⟩ := by unfold Addr.add; split <;> simp_all
    rw [hadd]
    match j, hj with
    | 0, hj => simp [rowP] at hj; subst hj; exact c0
    | 1, hj => simp [rowP] at hj; subst hj; exact c1
    | 2, hj => simp [rowP] at hj; subst hj; exact c2
    | 3, hj => simp [rowP] at hj; subst hj; exact c3
    | j + 4, hj => simp [rowP] at hj
  have hone : ∀ u ∈ rowP [((x1, x2), y1, y2)], u.oneCell' = true := by
    intro u hu
    simp [rowP] at hu
    rcases hu with rfl | rfl | rfl | rfl <;> rfl
  refine step_append_lies w hgd s x 23 ho base 41 i _ 4 32 Tryz.underlying23 hi hz hsz hb rfl (by decide) v ps.length (rowP ps) hs hown ⟨g, 0, none⟩ 1 c (rowP [((x1, x2), y1, y2)]) hx rfl hcell hone (by decide) (by unfold maxLen; omega) (by omega) hbase _ rfl ?_
  intro g' cap w' h1 h2 h3 _
  refine h _ w' ?_ ((Below.refl _ _).grown h2 hbase (fun k hk => (hown.lt k hk).1))
  unfold OwP; rw [List.length_append, rowP_app]; exact h1

theorem imMirror_is (a b : Int) (hb : 0 ≤ a ∧ a ≤ b ∧ b ≤ 1000000000) (w : World) :
    Calls Tryz.prog 31 #[.agg #[.int .i64 a, .int .i64 b]] w fun e w' => e = .returned (.agg #[.int .i64 (b - a), .int .i64 b]) ∧ Below w.heap.size w w' := by
  have v1 : IntKind.i64.wrap (b - a) = b - a := IntWalk.i64_in _ (by omega)
  go_enter Tryz.func31, Tryz.ntmps31
  go_wp2_with fail
  refine bodyPost_ret (v := .agg #[.int .i64 (b - a), .int .i64 b]) (by simp [results, Tryz.results31, go_sem]) rfl ⟨rfl, ?_⟩
  go_grown
theorem opposite_is (a b : Int) (hb : 0 ≤ a ∧ a ≤ b ∧ b ≤ 1000000000) (w : World) :
    Calls Tryz.prog 30 #[.agg #[.int .i64 a, .int .i64 b]] w fun e w' => e = .returned (.agg #[.int .i64 (b - a), .int .i64 b]) ∧ Below w.heap.size w w' := by
  have v1 : IntKind.i64.wrap (b - a) = b - a := IntWalk.i64_in _ (by omega)
  go_enter Tryz.func30, Tryz.ntmps30
  go_wp2_with fail
  refine bodyPost_ret (v := .agg #[.int .i64 (b - a), .int .i64 b]) (by simp [results, Tryz.results30, go_sem]) rfl ⟨rfl, ?_⟩
  go_grown

def RelRf (ps : List Pt) (h : Nat) (W0 : World) (out i : Value) (wr : World) : Prop :=
  ∃ k : Nat, k ≤ ps.length ∧ i = .int .i64 ((ps.length : Int) - 1 - (k : Int)) ∧ OwP h 41 wr out ((reflectQ ps).take k) ∧ Below h W0 wr

set_option maxRecDepth 100000 in
set_option maxHeartbeats 3200000 in
theorem sReflectMap_is (ps : List Pt) (v : Value) (l : List Pt) (t : Bool) (hl0 : reflMapQ ps = (l, t)) (w : World) (hv : RdP w v ps) (hn : ps.length ≤ 1048576) :
    Calls Tryz.prog 8 #[v] w (RetPB w l t) := by
  have HV := Lib.hid hv
  rcases hm : okMap ps with _ | _
  · obtain ⟨rfl, rfl⟩ : [] = l ∧ false = t := by unfold reflMapQ at hl0; rw [if_neg (by rw [hm]; simp)] at hl0; exact Prod.mk.inj hl0
    have HM := Lib.hid hm
    clear hv hl0 hm
    go_enter Tryz.func8, Tryz.ntmps8
    go_wp2_with fail
    refine (imGood_is ps v false _ (HV.out.keep (by go_grown)) hn HM.out).mono ?_
    rintro e w1 ⟨rfl, hb⟩
    go_wp2_with fail
    go_ret2
    exact ⟨_, rfl, World.ownsRow_nil _ _ _ _, hb⟩
  · obtain ⟨rfl, rfl⟩ : reflectQ ps = l ∧ true = t := by unfold reflMapQ at hl0; rw [if_pos hm] at hl0; exact Prod.mk.inj hl0
    have HM := Lib.hid hm
    have hlm := okMap_len hm
    obtain ⟨A, c, rfl, hl, hm9, hcell⟩ := hv
    unfold maxLen at hm9
    obtain ⟨g, o, rfl, hg, hc⟩ := hcell (by intro h; rw [h] at hlm; simp at hlm)
    have HC := Lib.hid hc
    have HLen := Lib.hid (reflectQ_len ps)
    have v0 : IntKind.i64.wrap ((ps.length : Int) - 1) = (ps.length : Int) - 1 := IntWalk.i64_in _ (by omega)
    clear hl0 hm hcell hc
    go_enter Tryz.func8, Tryz.ntmps8
    go_wp2_with fail
    refine (imGood_is ps _ true _ (HV.out.keep (by go_grown)) hn HM.out).mono ?_
    rintro e w1 ⟨rfl, hb1⟩
    have hB0 : Below w.heap.size w w1 := nextX (by go_grown) hb1
    have hz1 := hB0.size
    clear hb1
    go_wp2_with fail
    go_loopw [4, 5] (fun out i wr => RelRf ps w1.heap.size w1 out i wr) (fun _ i _ => (intOf i + 1).toNat)
    case atStart => exact ⟨0, by omega, by simp, World.ownsRow_nil _ _ _ _, Below.refl _ _⟩
    case round =>
      obtain ⟨k, hk, rfl, hown, hb⟩ := hrel
      have HO := Lib.hid hown
      have hBr := Below.trans hB0 (hb.mono hz1)
      have hzr := hb.size
      clear hown
      by_cases hlt : k < ps.length
      · obtain ⟨j, hj⟩ : ∃ j : Nat, ps.length - 1 - k = j := ⟨_, rfl⟩
        have hji : (ps.length : Int) - 1 - (k : Int) = (j : Int) := by omega
        have hp := List.getElem?_eq_getElem (show j < ps.length by omega)
        have hcd := okMap_coord HM.out hp
        generalize ps[j] = p at *
        obtain ⟨c0, c1, c2, c3⟩ := HC.out j _ hp
        have HSn := Lib.hid (take_snoc_get (reflectQ_get hlt (by rw [hj]; exact hp)))
        obtain ⟨⟨p1, p2⟩, p3, p4⟩ := p
        have HU := Lib.hid (And.intro (unitQ_bd (coordQ_unit hcd.1)) (unitQ_bd (coordQ_unit hcd.2)))
        simp only [reflP, mirQ] at c0 c1 c2 c3 HSn HU
        have kL : Facts [(g, o + j * 4, .int .i64 p1), (g, o + j * 4 + 1, .int .i64 p2), (g, o + j * 4 + 2, .int .i64 p3), (g, o + j * 4 + 3, .int .i64 p4)] wr :=
          Facts.keepB (W := w) (B := w.heap.size) (show Facts [_, _, _, _] w from ⟨c0, c1, c2, c3⟩) hBr (by simp; omega)
        have hlow : ∀ x ∈ [(g, o + j * 4, Value.int .i64 p1), (g, o + j * 4 + 1, .int .i64 p2), (g, o + j * 4 + 2, .int .i64 p3), (g, o + j * 4 + 3, .int .i64 p4)], x.1 < w1.heap.size := by simp; omega
        have HLo := Lib.hid hlow
        clear hp hcd c0 c1 c2 c3 hlow
        rw [hji]
        have b0 : (0 : Int) ≤ (j : Int) := by omega
        have b1 : (j : Int) < (ps.length : Int) := by omega
        have v2 : IntKind.i64.wrap ((j : Int) - 1) = (j : Int) - 1 := IntWalk.i64_in _ (by omega)
        have v3 : IntKind.i64.wrap (j : Int) = (j : Int) := IntWalk.i64_in _ (by omega)
        go_wp2_with fail
        go_region_held3 (fun w' => w'.cell? ⟨g, o + j * 4, none⟩ = some (.int .i64 p1) ∧ w'.cell? ⟨g, o + j * 4 + 1, none⟩ = some (.int .i64 p2) ∧ w'.cell? ⟨g, o + j * 4 + 2, none⟩ = some (.int .i64 p3) ∧ w'.cell? ⟨g, o + j * 4 + 3, none⟩ = some (.int .i64 p4))
          ((refine Facts.keepB kL ?_ HLo.out; go_grown; done))
          ((first
            | (go_at_call_of 31 p1; (with_reducible refine (imMirror_is p1 p2 ⟨HU.out.1.1, HU.out.1.2.1, HU.out.1.2.2.2⟩ _).mono ?_); rintro e w2 ⟨rfl, hb2⟩; have hX2 : Below w1.heap.size wr w2 := nextB (by go_grown) (by go_size) hb2; have hz2 : wr.heap.size ≤ w2.heap.size := hX2.size; have ho2 := Lib.hid (HO.out.keep (nextX (by go_grown) hb2)))
            | (go_at_call_of 31 p3; (with_reducible refine (imMirror_is p3 p4 ⟨HU.out.2.1, HU.out.2.2.1, HU.out.2.2.2.2⟩ _).mono ?_); rintro e w3 ⟨rfl, hb3⟩; have hX3 : Below w1.heap.size wr w3 := nextB (by go_grown) (by go_size) hb3; have hz3 : w2.heap.size ≤ w3.heap.size := hb3.size; have ho3 := Lib.hid (ho2.out.keep (nextX (by go_grown) hb3)))
            | (refine step_append_p _ (by rfl) _ _ (by rfl) w1.heap.size _ ((reflectQ ps).take k) (by rfl) (ho3.out.keep (by go_grown)) w3.heap.size _ (p2 - p1) p2 (p4 - p3) p4 (by rfl) (by simp [go_sem]) (by simp [go_sem]) (by simp [go_sem]) (by simp [go_sem]) (by rw [List.length_take, HLen.out]; omega) (by go_size) ?_; intro v' w' hown hg4; have hX4 : Below w1.heap.size wr w' := Below.trans (by go_grown) hg4)))
        have HO2 := Lib.hid hown
        have hB : Below w1.heap.size w1 w' := Below.trans hb hX4
        clear hown hg4 v3 b1
        go_wp2_with fail
        go_roundw
        case rel => exact ⟨k + 1, by omega, by congr 1; omega, by rw [HSn.out]; exact HO2.out, hB⟩
        case measure => simp [intOf] <;> omega
      · obtain rfl : k = ps.length := by omega
        have HE := Lib.hid (show OwP w.heap.size 41 wr _ (reflectQ ps) by have h := HO.out.low (b := w.heap.size) hz1; rwa [List.take_of_length_le (by rw [HLen.out]; omega)] at h)
        have e0 : (ps.length : Int) - 1 - (ps.length : Int) = -1 := by omega
        rw [e0]
        go_wp2_with fail
        go_ret2
        exact ⟨_, rfl, HE.out, hBr⟩

end Go.Proofs.YtkeajfgcjmhmiaaGreatDoor
