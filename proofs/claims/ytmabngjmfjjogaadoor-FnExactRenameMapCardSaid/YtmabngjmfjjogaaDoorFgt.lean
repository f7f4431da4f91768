/- ForgetMap of both; forgotten of the program. -/
import Derived.Test.YtmabngjmfjjogaaDoorDelW
namespace Go.Proofs.YtmabngjmfjjogaaDoor
open Go.RowKit

/-- Whether a map with a name can be forgotten. -/
def fgtB (ns : List Nm) (name : List UInt8) : Bool := envB ns && ns.any (fun n => decide (n.1 = name))
def fgtQ (ns : List Nm) (name : List UInt8) : List Nm × Bool := if fgtB ns name = true then (woQ ns name, true) else ([], false)
theorem any_name {ns : List Nm} {name : List UInt8} : ns.any (fun n => decide (n.1 = name)) = true ↔ ∃ n ∈ ns, n.1 = name := by
  simp [List.any_eq_true]
theorem fgtB_env {ns : List Nm} {name : List UInt8} (h : envB ns = false) : fgtB ns name = false := by unfold fgtB; rw [h]; rfl
theorem fgtB_none {ns : List Nm} {name : List UInt8} (h : ∀ n ∈ ns, n.1 ≠ name) : fgtB ns name = false := by
  unfold fgtB
  have : ns.any (fun n => decide (n.1 = name)) = false := by
    rw [Bool.eq_false_iff]
    intro hh
    obtain ⟨n, hn, he⟩ := any_name.1 hh
    exact h n hn he
  rw [this, Bool.and_false]
theorem fgtB_some {ns : List Nm} {name : List UInt8} (h : envB ns = true) {n : Nm} (hn : n ∈ ns) (he : n.1 = name) : fgtB ns name = true := by
  unfold fgtB
  rw [h, any_name.2 ⟨n, hn, he⟩]; rfl
theorem wo_erase {ns : List Nm} {name : List UInt8} (hs : SrtE ns) {i : Nat} {n : Nm} (hi : ns[i]? = some n) (he : n.1 = name) : woQ ns name = ns.eraseIdx i := by
  have hil := (List.getElem?_eq_some_iff.1 hi).1
  have e1 : ∀ L : List Nm, (∀ m ∈ L, m.1 ≠ name) → woQ L name = L := fun L h => by
    unfold woQ
    rw [List.filter_eq_self]
    intro m hm
    simpa using h m hm
  have e2 : ns = ns.take i ++ n :: ns.drop (i + 1) := by
    have := List.take_append_drop i ns
    rw [List.drop_eq_getElem_cons hil] at this
    have h2 : ns[i] = n := by rw [List.getElem?_eq_getElem hil] at hi; exact Option.some.inj hi
    rw [h2] at this
    exact this.symm
  have h1 : woQ (ns.take i) name = ns.take i := e1 _ fun m hm => by
    obtain ⟨j, hj⟩ := List.getElem?_of_mem hm
    have hjl := (List.getElem?_eq_some_iff.1 hj).1
    rw [List.length_take] at hjl
    rw [List.getElem?_take_of_lt (by omega)] at hj
    intro hh
    have := srt_one hs hj hi (hh.trans he.symm)
    omega
  have h2 : woQ (ns.drop (i + 1)) name = ns.drop (i + 1) := e1 _ fun m hm => by
    obtain ⟨j, hj⟩ := List.getElem?_of_mem hm
    rw [List.getElem?_drop] at hj
    intro hh
    have := srt_one hs hj hi (hh.trans he.symm)
    omega
  rw [List.eraseIdx_eq_take_drop_succ]
  have h3 : woQ ns name = woQ (ns.take i) name ++ woQ (n :: ns.drop (i + 1)) name := by
    conv => lhs; rw [e2]
    unfold woQ; rw [List.filter_append]
  have h4 : woQ (n :: ns.drop (i + 1)) name = woQ (ns.drop (i + 1)) name := by
    unfold woQ
    rw [List.filter_cons_of_neg (by simpa using he)]
  rw [h3, h1, h4, h2]
theorem fgtQ_len {ns m : List Nm} {name : List UInt8} {t : Bool} (h : fgtQ ns name = (m, t)) : m.length ≤ 8 := by
  unfold fgtQ at h
  split at h
  · rename_i hk
    cases h
    unfold fgtB at hk
    simp only [Bool.and_eq_true] at hk
    exact Nat.le_trans (List.length_filter_le _ _) (envB_yes hk.1).1
  · cases h; simp

/-- What forgotten leaves where there is such a map. -/
def FgtYes (base : Nat) (ns : List Nm) (name : List UInt8) (r f : Value) (w' : World) : Prop :=
  ∃ (i : Nat) (n : Nm) (ms : List Value) (g cap : Nat), ns[i]? = some n ∧ n.1 = name ∧ ms[i]? = some f ∧ r = .slice (some ⟨g, 0, none⟩) (ns.length - 1) cap ∧ ns.length ≤ cap ∧
    w'.ownsRow base 89 2 r (ns.length - 1) (rowN (ns.eraseIdx i) (ms.eraseIdx i)) ∧ OwM base w' ns ms
def FgtEnd (w : World) (ns : List Nm) (name : List UInt8) (e : Ending) (w' : World) : Prop :=
  ∃ r f, e = .returned (.tuple #[r, f, .bool (fgtB ns name)]) ∧ ((fgtB ns name = false ∧ r = .slice none 0 0 ∧ f = .slice none 0 0) ∨ (fgtB ns name = true ∧ FgtYes w.heap.size ns name r f w')) ∧ Below w.heap.size w w'
set_option maxRecDepth 100000 in
set_option maxHeartbeats 3200000 in
theorem forgotten_is (ns : List Nm) (v : Value) (name : List UInt8) (w : World) (hC : CutW w) (hv : RdE w v ns) (hnm : NmL ns) (hn : ns.length ≤ 1048576) (hm : ∀ n ∈ ns, n.2.length ≤ 1048576) :
    Calls Tryd.prog 77 #[v, str name] w (FgtEnd w ns name) := by
  have HV := Lib.hid hv
  clear hv
  rcases hen : envB ns with _ | _
  · have HE := Lib.hid hen
    have hb0 := fgtB_env (name := name) hen
    unfold FgtEnd
    rw [hb0]
    clear hen hb0
    go_enter Tryd.func77, Tryd.ntmps77
    go_wp2_with fail
    refine (namedAt_is ns v name _ (HV.out.keep (by go_grown)) hn).mono ?_
    rintro e w1 ⟨i, b, rfl, -, h1⟩
    have hB : Below w.heap.size w w1 := nextX (by go_grown) h1
    clear h1
    go_wp2_with fail
    refine (isEnvironment_is ns v false _ (hC.keep (nextX hB (by go_grown))) (HV.out.keep (nextX hB (by go_grown))) hnm hn hm HE.out).mono ?_
    rintro e w2 ⟨rfl, h1⟩
    replace hB := nextX hB (nextX (by go_grown) h1)
    clear h1
    go_wp2_with fail
    go_ret3
    exact ⟨_, _, rfl, .inl ⟨(by first | rfl | trivial), (by first | rfl | trivial), (by first | rfl | trivial)⟩, hB⟩
  · have HE := Lib.hid hen
    have hs := env_srt hen
    have hms := maps_of hen
    have hn8 := (envB_yes hen).1
    by_cases hx : ∃ n ∈ ns, n.1 = name
    · have hb0 : fgtB ns name = true := by obtain ⟨n, h1, h2⟩ := hx; exact fgtB_some hen h1 h2
      unfold FgtEnd
      rw [hb0]
      have HX := Lib.hid hx
      have HS := Lib.hid hs
      clear hen hx hs hb0
      go_enter Tryd.func77, Tryd.ntmps77
      go_wp2_with fail
      refine (namedAt_is ns v name _ (HV.out.keep (by go_grown)) hn).mono ?_
      rintro e w1 ⟨i, b, rfl, hq, h1⟩
      have hB : Below w.heap.size w w1 := nextX (by go_grown) h1
      obtain rfl : b = true := by
        cases b
        · obtain ⟨n, h2, h3⟩ := HX.out
          exact absurd h3 ((hq.2.2 HS.out).1 rfl n h2)
        · rfl
      obtain ⟨n, hi, he⟩ := hq.2.1 rfl
      have hil := (List.getElem?_eq_some_iff.1 hi).1
      have HI := Lib.hid (And.intro hi he)
      clear h1 hq hi he HX
      go_wp2_with fail
      refine (isEnvironment_is ns v true _ (hC.keep (nextX hB (by go_grown))) (HV.out.keep (nextX hB (by go_grown))) hnm hn hm HE.out).mono ?_
      rintro e w2 ⟨rfl, h1⟩
      replace hB := nextX hB (nextX (by go_grown) h1)
      clear h1
      go_wp2_with fail
      refine (copyNamed_is ns v _ (HV.out.keep (nextX hB (by go_grown))) (by omega) hms).mono ?_
      rintro e w3 ⟨r, rfl, ho, h1⟩
      have hz2 := hB.size
      replace hB := nextX hB (nextX (by go_grown) h1)
      obtain ⟨ms, hr, hmm⟩ := ho.low (b := w.heap.size) (by go_size)
      obtain ⟨g, cap, rfl, hc1, hc2, hg1, hg2, hcell, -⟩ := ownsRow_lit hr (by omega)
      unfold maxLen at hc2
      have hml := hmm.1
      have hfi : ms[i]? = some ms[i] := List.getElem?_eq_getElem (by omega)
      obtain ⟨A2, c2, hv2, -, -⟩ := ownsRow_slice (hmm.2.1 i n _ HI.out.1 hfi)
      rw [hv2] at hfi
      have c0 : w3.cell? ⟨g, i * 2 + 1, none⟩ = some (.slice A2 n.2.length c2) := by
        rw [hcell _ (by omega)]
        exact (rowN_get HI.out.1 hfi).2
      have HR := Lib.hid hr
      have HM := Lib.hid hmm
      have HFi := Lib.hid hfi
      have b0 : (0 : Int) ≤ (i : Int) := by omega
      have b1 : (i : Int) < (ns.length : Int) := by omega
      have v1 : IntKind.i64.wrap ((i : Int) + 1) = (i : Int) + 1 := IntWalk.i64_in _ (by omega)
      clear h1 ho hr hmm hfi hcell hv2 hml
      go_wp2_with fail
      refine (delete_is w.heap.size g cap i ns ms _ HR.out HM.out hil (by omega)).mono ?_
      rintro e w4 ⟨rfl, hr4, hm4, hb4⟩
      have hB4 := below_but hB hb4 hg1
      have HR4 := Lib.hid hr4
      have HM4 := Lib.hid hm4
      clear hr4 hm4 hb4
      go_wp2_with fail
      go_ret3
      exact ⟨_, _, rfl, .inr ⟨(by first | rfl | trivial), i, n, ms, g, cap, HI.out.1, HI.out.2, HFi.out, rfl, hc1, HR4.out, HM4.out⟩, hB4⟩
    · have hb0 : fgtB ns name = false := fgtB_none fun n h1 h2 => hx ⟨n, h1, h2⟩
      unfold FgtEnd
      rw [hb0]
      have HX := Lib.hid hx
      clear hen hx hs hb0
      go_enter Tryd.func77, Tryd.ntmps77
      go_wp2_with fail
      refine (namedAt_is ns v name _ (HV.out.keep (by go_grown)) hn).mono ?_
      rintro e w1 ⟨i, b, rfl, hq, h1⟩
      have hB : Below w.heap.size w w1 := nextX (by go_grown) h1
      obtain rfl : b = false := by
        cases b
        · rfl
        · obtain ⟨n, h2, h3⟩ := hq.2.1 rfl
          exact absurd ⟨n, List.mem_of_getElem? h2, h3⟩ HX.out
      clear h1 hq
      go_wp2_with fail
      refine (isEnvironment_is ns v true _ (hC.keep (nextX hB (by go_grown))) (HV.out.keep (nextX hB (by go_grown))) hnm hn hm HE.out).mono ?_
      rintro e w2 ⟨rfl, h1⟩
      replace hB := nextX hB (nextX (by go_grown) h1)
      clear h1
      go_wp2_with fail
      go_ret3
      exact ⟨_, _, rfl, .inl ⟨(by first | rfl | trivial), (by first | rfl | trivial), (by first | rfl | trivial)⟩, hB⟩

/-- What a call that gives named maps and a flag leaves. -/
def RetNB (w : World) (ns : List Nm) (t : Bool) (e : Ending) (w' : World) : Prop := ∃ r, e = .returned (.tuple #[r, .bool t]) ∧ OwN w.heap.size w' r ns ∧ Below w.heap.size w w'
set_option maxHeartbeats 1600000 in
theorem iForgetMap_is (ns : List Nm) (v : Value) (name : List UInt8) (m : List Nm) (t : Bool) (hl : fgtQ ns name = (m, t)) (w : World) (hC : CutW w) (hv : RdE w v ns) (hnm : NmL ns) (hn : ns.length ≤ 1048576) (hm : ∀ n ∈ ns, n.2.length ≤ 1048576) :
    Calls Tryd.prog 35 #[v, str name] w (RetNB w m t) := by
  have HL := Lib.hid hl
  have HV := Lib.hid hv
  clear hl hv
  go_enter Tryd.func35, Tryd.ntmps35
  go_wp2_with fail
  refine (forgotten_is ns v name _ (hC.keep (by go_grown)) (HV.out.keep (by go_grown)) hnm hn hm).mono ?_
  rintro e w1 ⟨r, f, rfl, hq, h1⟩
  have hB : Below w.heap.size w w1 := nextX (by go_grown) h1
  clear h1
  rcases hq with ⟨hb, rfl, rfl⟩ | ⟨hb, hy⟩
  · obtain ⟨rfl, rfl⟩ : [] = m ∧ false = t := by
      have h := HL.out
      unfold fgtQ at h
      rw [if_neg (by rw [hb]; simp)] at h
      exact Prod.mk.inj h
    rw [hb]
    clear hb
    go_wp2_with fail
    go_ret2
    exact ⟨_, rfl, OwN.nil _ _, hB⟩
  · obtain ⟨rfl, rfl⟩ : woQ ns name = m ∧ true = t := by
      have h := HL.out
      unfold fgtQ at h
      rw [if_pos hb] at h
      exact Prod.mk.inj h
    obtain ⟨i, n, ms, g, cap, hi, he, hf, rfl, hcap, hr, hmm⟩ := hy
    have hil := (List.getElem?_eq_some_iff.1 hi).1
    have hen : envB ns = true := by unfold fgtB at hb; simp only [Bool.and_eq_true] at hb; exact hb.1
    have HO := Lib.hid (show OwN w.heap.size w1 (.slice (some ⟨g, 0, none⟩) (ns.length - 1) cap) (woQ ns name) by
      rw [wo_erase (env_srt hen) hi he]
      exact OwN.low ⟨ms.eraseIdx i, by rw [List.length_eraseIdx, if_pos hil]; exact hr, hmm.erase i⟩ (by go_size))
    rw [hb]
    clear hb hi he hf hr hmm hen
    go_wp2_with fail
    go_ret2
    exact ⟨_, rfl, HO.out, hB⟩

set_option maxHeartbeats 1600000 in
theorem sForgetMap_is (ns : List Nm) (v : Value) (name : List UInt8) (m : List Nm) (t : Bool) (hl : fgtQ ns name = (m, t)) (w : World) (hv : RdE w v ns) (hnm : NmL ns) (hn : ns.length ≤ 1048576) (hm : ∀ n ∈ ns, n.2.length ≤ 1048576) :
    Calls Tryd.prog 34 #[v, str name] w (RetNB w m t) := by
  have HV := Lib.hid hv
  clear hv
  rcases hen : envB ns with _ | _
  · have HE := Lib.hid hen
    obtain ⟨rfl, rfl⟩ : [] = m ∧ false = t := by
      unfold fgtQ at hl
      rw [if_neg (by rw [fgtB_env hen]; simp)] at hl
      exact Prod.mk.inj hl
    clear hl hen
    go_enter Tryd.func34, Tryd.ntmps34
    go_wp2_with fail
    refine (laGood_is ns v false _ (HV.out.keep (by go_grown)) hnm hn hm HE.out).mono ?_
    rintro e w1 ⟨rfl, h1⟩
    have hB : Below w.heap.size w w1 := nextX (by go_grown) h1
    clear h1
    go_wp2_with fail
    go_ret2
    exact ⟨_, rfl, OwN.nil _ _, hB⟩
  · have HE := Lib.hid hen
    have HL := Lib.hid hl
    have hms := maps_of hen
    have hn8 := (envB_yes hen).1
    clear hl hen
    go_enter Tryd.func34, Tryd.ntmps34
    go_wp2_with fail
    refine (laGood_is ns v true _ (HV.out.keep (by go_grown)) hnm hn hm HE.out).mono ?_
    rintro e w1 ⟨rfl, h1⟩
    have hB : Below w.heap.size w w1 := nextX (by go_grown) h1
    clear h1
    go_wp2_with fail
    refine (laFind_is ns v name _ (HV.out.keep (nextX hB (by go_grown))) hn).mono ?_
    rintro e w2 ⟨x, rfl, hx, h1⟩
    replace hB := nextX hB (nextX (by go_grown) h1)
    clear h1
    rcases hx with ⟨rfl, hno⟩ | ⟨i, n, rfl, hi, he, -⟩
    · obtain ⟨rfl, rfl⟩ : [] = m ∧ false = t := by
        have h := HL.out
        unfold fgtQ at h
        rw [if_neg (by rw [fgtB_none hno]; simp)] at h
        exact Prod.mk.inj h
      clear hno
      go_wp2_with fail
      go_ret2
      exact ⟨_, rfl, OwN.nil _ _, hB⟩
    · obtain ⟨rfl, rfl⟩ : woQ ns name = m ∧ true = t := by
        have h := HL.out
        unfold fgtQ at h
        rw [if_pos (fgtB_some HE.out (List.mem_of_getElem? hi) he)] at h
        exact Prod.mk.inj h
      have b0 : ¬ (i : Int) < 0 := by omega
      have b0' : decide ((i : Int) < 0) = false := decide_eq_false b0
      clear hi he
      go_wp2_with fail
      refine (laWithout_is ns v name _ (HV.out.keep (nextX hB (by go_grown))) (by omega) hms).mono ?_
      rintro e w3 ⟨r, rfl, ho, h1⟩
      have hz2 := hB.size
      replace hB := nextX hB (nextX (by go_grown) h1)
      have HO := Lib.hid (ho.low (b := w.heap.size) (by go_size))
      clear h1 ho
      go_wp2_with fail
      go_ret2
      exact ⟨_, rfl, HO.out, hB⟩

end Go.Proofs.YtmabngjmfjjogaaDoor
