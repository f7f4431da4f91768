/- RenameMap of the program. -/
import Derived.Test.YtmabngjmfjjogaaDoorRnP
namespace Go.Proofs.YtmabngjmfjjogaaDoor
open Go.RowKit

set_option maxRecDepth 100000 in
set_option maxHeartbeats 3200000 in
theorem iRenameMap_is (ns : List Nm) (v : Value) (old name : List UInt8) (m : List Nm) (t : Bool) (hl : renQ ns old name = (m, t)) (w : World) (hC : CutW w) (hv : RdE w v ns) (hnm : NmL ns) (hn : ns.length ≤ 1048576) (hm : ∀ n ∈ ns, n.2.length ≤ 1048576) (hnl : name.length ≤ 1048576) :
    Calls Tryd.prog 39 #[v, str old, str name] w (RetNB w m t) := by
  have HL := Lib.hid hl
  have HV := Lib.hid hv
  clear hl hv
  go_enter Tryd.func39, Tryd.ntmps39
  go_wp2_with fail
  refine (forgotten_is ns v old _ (hC.keep (by go_grown)) (HV.out.keep (by go_grown)) hnm hn hm).mono ?_
  rintro e w1 ⟨r, f, rfl, hq, h1⟩
  have hB : Below w.heap.size w w1 := nextX (by go_grown) h1
  clear h1
  rcases hq with ⟨hb, rfl, rfl⟩ | ⟨hb, hy⟩
  · obtain ⟨rfl, rfl⟩ := renQ_no HL.out (renB_fgt hb)
    rw [hb]
    clear hb
    go_wp2_with fail
    refine (namedAt_is [] _ name _ (RdE.nil _) (by simp)).mono ?_
    rintro e w2 ⟨i, b, rfl, -, h1⟩
    replace hB := nextX hB (nextX (by go_grown) h1)
    clear h1
    go_wp2_with fail
    go_ret2
    exact ⟨_, rfl, OwN.nil _ _, hB⟩
  · obtain ⟨i, n, ms, g, cap, hi, he, hf, rfl, hcap, hr, hmm⟩ := hy
    have hil := (List.getElem?_eq_some_iff.1 hi).1
    have hen : envB ns = true := by have := hb; unfold fgtB at this; simp only [Bool.and_eq_true] at this; exact this.1
    have hsr := env_srt hen
    have hwo := wo_erase hsr hi he
    have hn8 := (envB_yes hen).1
    have hmap := mapOf_eq hsr hi he
    have hrl : renL ns old name = insL (ns.eraseIdx i) (posOf (ns.eraseIdx i) name) (name, n.2) := by unfold renL; rw [hwo, hmap]
    have hsw := hsr.erase i
    have hel : ns.length - 1 = (ns.eraseIdx i).length := by rw [List.length_eraseIdx, if_pos hil]
    replace hr := ownsRow_low hr (b := w.heap.size) (by go_size)
    replace hmm := hmm.low (b := w.heap.size) (by go_size)
    rw [hel] at hr
    have hfo := hmm.2.1 i n f hi hf
    have hsf := erase_sep hmm hf
    have hMo := hmm.erase i
    obtain ⟨Af, cf, rfl, -, -⟩ := ownsRow_slice hfo
    have hfg : (Value.slice Af n.2.length cf).ownBlock ≠ some g := fun h => sep_of hr hfo (by decide) g rfl h
    have hg := World.ownsRow.lt hr g rfl
    have hroom : (ns.eraseIdx i).length + 1 ≤ cap := by omega
    have hlen8 : (ns.eraseIdx i).length ≤ 8 := by omega
    have hmem : ∀ x, x ∈ ns.eraseIdx i → x ∈ woQ ns old := fun x hx => by rw [hwo]; exact hx
    have hmem2 : ∀ x, x ∈ woQ ns old → x ∈ ns.eraseIdx i := fun x hx => by rw [← hwo]; exact hx
    rw [hel]
    generalize ns.eraseIdx i = L at *
    generalize ms.eraseIdx i = M at *
    have hap := OwN.apart hr hMo
    have HR := Lib.hid hr
    have HM := Lib.hid hMo
    have HF := Lib.hid hfo
    have HS := Lib.hid hsf
    have HW := Lib.hid hsw
    have HRL := Lib.hid hrl
    have HAP := Lib.hid hap
    have HFG := Lib.hid hfg
    have HM1 := Lib.hid hmem
    have HM2 := Lib.hid hmem2
    have HBB := Lib.hid hb
    have HO := Lib.hid (show OwN w.heap.size w1 (.slice (some ⟨g, 0, none⟩) L.length cap) L from ⟨M, hr, hMo⟩)
    rw [hb]
    clear hr hMo hfo hsf hsw hrl hap hfg hmem hmem2 hmm hmap hwo hsr hen hi he hf hel hb
    go_wp2_with fail
    refine (namedAt_is L _ name _ (HO.out.read.keep (by go_grown)) (by omega)).mono ?_
    rintro e w2 ⟨p, b, rfl, hq, h1⟩
    have hX : Below w1.heap.size w1 w2 := nextX (by go_grown) h1
    have hB2 := nextW hB hX
    clear h1
    cases b
    · obtain ⟨hno, hlt, hge⟩ := hq.2.2 HW.out
      have hp := hq.1
      have hno := hno rfl
      have hpe := posOf_eq HW.out hp hlt hge
      have HNO := Lib.hid (show ∀ x ∈ woQ ns old, x.1 ≠ name from fun x hx => hno x (HM2.out x hx))
      have HPE := Lib.hid hpe
      clear hq hno hlt hge hpe
      rcases hN : nameB name with _ | _
      · obtain ⟨rfl, rfl⟩ := renQ_no HL.out (renB_word hN)
        have HN := Lib.hid hN
        clear hN
        go_wp2_with fail
        refine (isMapName_is name false HN.out _ (hC.keep (nextX hB2 (by go_grown))) (by omega)).mono ?_
        rintro e w3 ⟨rfl, h1⟩
        replace hB2 := nextX hB2 (nextX (by go_grown) h1)
        clear h1
        go_wp2_with fail
        go_ret2
        exact ⟨_, rfl, OwN.nil _ _, hB2⟩
      · obtain ⟨rfl, rfl⟩ := renQ_yes HL.out (renB_all HBB.out HNO.out hN)
        have HN := Lib.hid hN
        clear hN
        go_wp2_with fail
        refine (isMapName_is name true HN.out _ (hC.keep (nextX hB2 (by go_grown))) (by omega)).mono ?_
        rintro e w3 ⟨rfl, h1⟩
        have hX3 : Below w1.heap.size w1 w3 := nextX (nextX hX (by go_grown)) h1
        have hB3 := nextW hB hX3
        have hz3 := hX3.size
        clear h1
        unfold str
        go_wp2_with fail
        refine (insert_is w.heap.size g cap _ p L M (name, n.2) (.slice Af n.2.length cf) _ (ownsRow_keep HR.out (nextX hX3 (by go_grown))) (HM.out.keep (nextX hX3 (by go_grown))) hp (by omega) hroom ?hvg ?hvb rfl).mono ?_
        case hvb => first | exact heap_alloc_new _ _ | simp [go_sem, str]
        case hvg => first | exact Nat.ne_of_gt (by omega) | go_size
        rintro e w5 ⟨rfl, hr5, hb5⟩
        have hB5 := below_but (nextX hB3 (by go_grown)) hb5 hg.1
        have HO5 := Lib.hid (show OwN w.heap.size w5 (.slice (some ⟨g, 0, none⟩) (L.length + 1) cap) (renL ns old name) by
          rw [HRL.out, HPE.out]
          exact own_ins hr5 (HM.out.keep (nextX hX3 (by go_grown))) (HF.out.keep (nextX hX3 (by go_grown))) HS.out hb5 (fun m hm hh => HAP.out m hm g rfl hh) HFG.out hp)
        clear hr5 hb5
        go_wp2_with fail
        go_ret2
        exact ⟨_, rfl, HO5.out, hB5⟩
    · obtain ⟨n', h2, h3⟩ := hq.2.1 rfl
      obtain ⟨rfl, rfl⟩ := renQ_no HL.out (renB_known (HM1.out n' (List.mem_of_getElem? h2)) h3)
      clear hq h2 h3
      go_wp2_with fail
      go_ret2
      exact ⟨_, rfl, OwN.nil _ _, hB2⟩

end Go.Proofs.YtmabngjmfjjogaaDoor
