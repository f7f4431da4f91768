/- Copies of named maps: copyNamed of the program; laOwn and laWithout of the reference. -/
import Derived.Test.YtmabngjmfjjogaaDoorCpN
namespace Go.Proofs.YtmabngjmfjjogaaDoor
open Go.RowKit

/-- All maps have points, and not too many. -/
def MapsE (ns : List Nm) : Prop := ∀ n ∈ ns, n.2 ≠ [] ∧ n.2.length ≤ 100000
theorem maps_of {ns : List Nm} (h : envB ns = true) : MapsE ns := fun n hn => by
  have h1 := okMap_len ((envB_yes h).2 n hn).2
  exact ⟨by rintro h2; rw [h2] at h1; simp at h1, by omega⟩

def RelCp (ns : List Nm) (w : World) (out i : Value) (wr : World) : Prop := ∃ k : Nat, k ≤ ns.length ∧ i = .int .i64 k ∧ OwN w.heap.size wr out (ns.take k) ∧ Below w.heap.size w wr
set_option maxRecDepth 100000 in
set_option maxHeartbeats 3200000 in
theorem copyNamed_is (ns : List Nm) (v : Value) (w : World) (hv : RdE w v ns) (hn : ns.length ≤ 100000) (hms : MapsE ns) :
    Calls Tryd.prog 122 #[v] w (RetN w ns) := by
  obtain ⟨A, c, rfl, hl, hmx, hcell⟩ := hv
  unfold maxLen at hmx
  have HC := Lib.hid hcell
  clear hcell
  go_enter Tryd.func122, Tryd.ntmps122
  go_wp2_with fail
  go_loopw [3, 8] (fun out i wr => RelCp ns w out i wr) (fun _ i _ => ns.length - (intOf i).toNat)
  case atStart => exact ⟨0, Nat.zero_le _, rfl, OwN.nil _ _, by go_grown⟩
  case round =>
    obtain ⟨k, hk, rfl, hown, hb⟩ := hrel
    have HO := Lib.hid hown
    have hzr := hb.size
    clear hown
    by_cases hlt : k < ns.length
    · obtain ⟨g, o, rfl, hg, hcc⟩ := HC.out (by rintro rfl; simp at hlt)
      have hx := List.getElem?_eq_getElem hlt
      generalize ns[k] = n at *
      obtain ⟨c0, mv, c1, hp⟩ := hcc k n hx
      obtain ⟨A1, k1, rfl, -, -, -⟩ := id hp
      have HM := Lib.hid (hms n (List.mem_of_getElem? hx))
      have HP := Lib.hid (hp.keep hb)
      have HX := Lib.hid hx
      replace c0 := cellB hb c0
      replace c1 := cellB hb c1
      unfold str at c0
      have b0 : (0 : Int) ≤ (k : Int) := by omega
      have b1 : (k : Int) < (ns.length : Int) := by omega
      have v1 : IntKind.i64.wrap ((k : Int) + 1) = (k : Int) + 1 := IntWalk.i64_in _ (by omega)
      clear hp hx hcc HC
      go_wp2_with fail
      go_name_world W0 hW
      have e0 : W0.cell? ⟨wr.heap.size, 0, none⟩ = some (.string ⟨n.1.toArray⟩) := by rw [← hW]; simp [go_sem]
      have e1 : W0.cell? ⟨wr.heap.size, 1, none⟩ = some (.slice A1 n.2.length k1) := by rw [← hW]; simp [go_sem]
      have hB0 : Below wr.heap.size wr W0 := by rw [← hW]; go_grown
      have hz0 := hB0.size
      clear hW c0 c1
      refine wp_region_HT (S := fun w' : World => w'.cell? ⟨wr.heap.size, 0, none⟩ = some (.string ⟨n.1.toArray⟩) ∧ w'.cell? ⟨wr.heap.size, 1, none⟩ = some (.slice A1 n.2.length k1)) 8 (by kernel_rfl) (by kernel_rfl) ?_
      have hS0 : (fun w' : World => w'.cell? ⟨wr.heap.size, 0, none⟩ = some (.string ⟨n.1.toArray⟩) ∧ w'.cell? ⟨wr.heap.size, 1, none⟩ = some (.slice A1 n.2.length k1)) _ := ⟨e0, e1⟩
      refine HT.take' (i := 0) (v := ?_) rfl (by kernel_rfl) (by decide) (by kernel_rfl) (by kernel_rfl) (fun _ _ _ h => h) (by rfl) (fun w' hS => ?_) hS0 ?_
      rotate_left
      focus
        obtain ⟨k0, k1⟩ := hS
        go_simp
        try with_reducible rfl
        done
      simp only [Act.put, List.setIfInBounds_toArray, List.set_cons_zero, List.set_cons_succ]
      refine HT.take' (i := 1) (v := ?_) rfl (by kernel_rfl) (by decide) (by kernel_rfl) (by kernel_rfl) (fun _ _ _ h => h) (by rfl) (fun w' hS => ?_) hS0 ?_
      rotate_left
      focus
        obtain ⟨k0, k1⟩ := hS
        go_simp
        try with_reducible rfl
        done
      simp only [Act.put, List.setIfInBounds_toArray, List.set_cons_zero, List.set_cons_succ]
      refine HT.take' (i := 2) (v := ?_) rfl (by kernel_rfl) (by decide) (by kernel_rfl) (by kernel_rfl) (fun _ _ _ h => h) (by rfl) (fun w' hS => ?_) hS0 ?_
      rotate_left
      focus
        obtain ⟨k0, k1⟩ := hS
        go_simp
        try with_reducible rfl
        done
      simp only [Act.put, List.setIfInBounds_toArray, List.set_cons_zero, List.set_cons_succ]
      refine HT.take' (i := 3) (v := ?_) rfl (by kernel_rfl) (by decide) (by kernel_rfl) (by kernel_rfl) (fun _ _ _ h => h) (by rfl) (fun w' hS => ?_) hS0 ?_
      rotate_left
      focus
        obtain ⟨k0, k1⟩ := hS
        go_simp
        try with_reducible rfl
        done
      simp only [Act.put, List.setIfInBounds_toArray, List.set_cons_zero, List.set_cons_succ]
      refine HT.take' (i := 4) (v := ?_) rfl (by kernel_rfl) (by decide) (by kernel_rfl) (by kernel_rfl) (fun _ _ _ h => h) (by rfl) (fun w' hS => ?_) hS0 ?_
      rotate_left
      focus
        obtain ⟨k0, k1⟩ := hS
        go_simp
        try with_reducible rfl
        done
      simp only [Act.put, List.setIfInBounds_toArray, List.set_cons_zero, List.set_cons_succ]
      refine HT.one' (i := 5) rfl (by decide) (by kernel_rfl) (fun K hK => ?_)
      go_simp
      refine (cloneP_is n.2 _ _ (HP.out.keep (nextX hB0 (by go_grown))) HM.out.2 HM.out.1).mono ?_
      rintro e w2 ⟨r, rfl, ho, h2⟩
      obtain ⟨Ar, cr, hr, -, -⟩ := ownsRow_slice ho
      subst hr
      have hX2 : Below W0.heap.size W0 w2 := nextX (by go_grown) h2
      have HR := Lib.hid (ho.low (b := wr.heap.size) (by go_size))
      clear ho
      go_wp2_with fail
      have hS1 : (fun w' : World => w'.cell? ⟨wr.heap.size, 0, none⟩ = some (.string ⟨n.1.toArray⟩) ∧ w'.cell? ⟨wr.heap.size, 1, none⟩ = some (.slice A1 n.2.length k1)) _ := ⟨cellB hX2 e0, cellB hX2 e1⟩
      refine hK _ _ hS1 ?_
      clear hK
      try simp only [Act.put, List.setIfInBounds_toArray, List.set_cons_zero, List.set_cons_succ]
      refine HT.take' (i := 6) (v := ?_) rfl (by kernel_rfl) (by decide) (by kernel_rfl) (by kernel_rfl) (fun _ _ _ h => h) (by rfl) (fun w' hS => ?_) hS1 ?_
      rotate_left
      focus
        obtain ⟨k0, k1⟩ := hS
        go_simp
        try with_reducible rfl
        done
      simp only [Act.put, List.setIfInBounds_toArray, List.set_cons_zero, List.set_cons_succ]
      refine HT.one' (i := 7) rfl (by decide) (by kernel_rfl) (fun K hK => ?_)
      go_simp
      refine hK _ _ ⟨cellA _ (cellB hX2 e0), cellA _ (cellB hX2 e1)⟩ ?_
      clear hK
      try simp only [Act.put, List.setIfInBounds_toArray, List.set_cons_zero, List.set_cons_succ]
      refine HT.done (by kernel_rfl) ?_
      simp only [List.drop_succ_cons, List.drop_zero]
      have hX : Below wr.heap.size wr w2 := nextW hB0 hX2
      clear hS0 hS1 e0 e1 h2 hB0 hX2
      go_wp2_with (at_builtin; refine append_n wr _ rfl _ _ rfl w.heap.size _ (ns.take k) rfl HO.out ?hx _ _ n Ar n.2.length cr wr.heap.size rfl ?c0 ?c1 ?mv ?hb ?len ?base ?_)
      case hx => exact nextX hX (by go_grown)
      case c0 => simp [go_sem]
      case c1 => simp [go_sem]
      case mv => exact HR.out.keep (by go_grown)
      case hb => exact Nat.le_refl _
      case len => rw [List.length_take]; omega
      case base => exact hb.size
      intro v' w' hown h7
      have hB7 : Below w.heap.size w w' := Below.trans (nextW hb (nextX hX (by go_grown))) h7
      have HO7 := Lib.hid (show OwN w.heap.size w' v' (ns.take (k + 1)) by rw [snocT HX.out]; exact hown)
      clear hown h7
      go_wp2_with fail
      go_roundw
      case rel => exact ⟨k + 1, by omega, by go_num, HO7.out, hB7⟩
      case measure => simp [intOf] <;> omega
    · obtain rfl : k = ns.length := by omega
      have HE := Lib.hid (show OwN w.heap.size wr _ ns by have := HO.out; rwa [List.take_length] at this)
      go_wp2_with fail
      go_ret
      exact ⟨_, rfl, HE.out, hb⟩

set_option maxRecDepth 100000 in
set_option maxHeartbeats 3200000 in
theorem laOwn_is (n : Nm) (mv : Value) (w : World) (hv : RdP w mv n.2) (hm : n.2 ≠ [] ∧ n.2.length ≤ 100000) :
    Calls Tryd.prog 79 #[.agg #[str n.1, mv]] w fun e w' => ∃ A cap, e = .returned (.agg #[.string ⟨n.1.toArray⟩, .slice A n.2.length cap]) ∧ OwP w.heap.size 74 w' (.slice A n.2.length cap) n.2 ∧ Below w.heap.size w w' := by
  have HV := Lib.hid hv
  obtain ⟨A1, k1, rfl, -, -, -⟩ := hv
  unfold str
  go_enter Tryd.func79, Tryd.ntmps79
  go_wp2_with fail
  go_name_world W0 hW
  have e0 : W0.cell? ⟨w.heap.size, 0, none⟩ = some (.string ⟨n.1.toArray⟩) := by rw [← hW]; simp [go_sem]
  have e1 : W0.cell? ⟨w.heap.size, 1, none⟩ = some (.slice A1 n.2.length k1) := by rw [← hW]; simp [go_sem]
  have r0 : Slot W0 (w.heap.size + 1) 0 (.string ⟨#[]⟩) := by rw [← hW]; exact ⟨by simp [go_sem], by simp [go_sem]⟩
  have r1 : Slot W0 (w.heap.size + 1) 1 (.slice none 0 0) := by rw [← hW]; exact ⟨by simp [go_sem], by simp [go_sem]⟩
  have hB0 : Below w.heap.size w W0 := by rw [← hW]; go_grown
  have hz0 := lt_of_cell r0.1
  clear hW
  refine wp_region_HT (S := fun w' : World => w'.cell? ⟨w.heap.size, 0, none⟩ = some (.string ⟨n.1.toArray⟩) ∧ w'.cell? ⟨w.heap.size, 1, none⟩ = some (.slice A1 n.2.length k1)) 6 (by kernel_rfl) (by kernel_rfl) ?_
  have hS0 : (fun w' : World => w'.cell? ⟨w.heap.size, 0, none⟩ = some (.string ⟨n.1.toArray⟩) ∧ w'.cell? ⟨w.heap.size, 1, none⟩ = some (.slice A1 n.2.length k1)) _ := ⟨e0, e1⟩
  refine HT.take' (i := 0) (v := ?_) rfl (by kernel_rfl) (by decide) (by kernel_rfl) (by kernel_rfl) (fun _ _ _ h => h) (by rfl) (fun w' hS => ?_) hS0 ?_
  rotate_left
  focus
    obtain ⟨k0, k1⟩ := hS
    go_simp
    try with_reducible rfl
    done
  simp only [Act.put, List.setIfInBounds_toArray, List.set_cons_zero, List.set_cons_succ]
  refine HT.take' (i := 1) (v := ?_) rfl (by kernel_rfl) (by decide) (by kernel_rfl) (by kernel_rfl) (fun _ _ _ h => h) (by rfl) (fun w' hS => ?_) hS0 ?_
  rotate_left
  focus
    obtain ⟨k0, k1⟩ := hS
    go_simp
    try with_reducible rfl
    done
  simp only [Act.put, List.setIfInBounds_toArray, List.set_cons_zero, List.set_cons_succ]
  refine HT.take' (i := 3) (v := ?_) rfl (by kernel_rfl) (by decide) (by kernel_rfl) (by kernel_rfl) (fun _ _ _ h => h) (by rfl) (fun w' hS => ?_) hS0 ?_
  rotate_left
  focus
    obtain ⟨k0, k1⟩ := hS
    go_simp
    try with_reducible rfl
    done
  simp only [Act.put, List.setIfInBounds_toArray, List.set_cons_zero, List.set_cons_succ]
  refine HT.take' (i := 4) (v := ?_) rfl (by kernel_rfl) (by decide) (by kernel_rfl) (by kernel_rfl) (fun _ _ _ h => h) (by rfl) (fun w' hS => ?_) hS0 ?_
  rotate_left
  focus
    obtain ⟨k0, k1⟩ := hS
    go_simp
    try with_reducible rfl
    done
  simp only [Act.put, List.setIfInBounds_toArray, List.set_cons_zero, List.set_cons_succ]
  refine HT.one' (i := 2) rfl (by decide) (by kernel_rfl) (fun K hK => ?_)
  go_simp
  have hS1 : (fun w' : World => w'.cell? ⟨w.heap.size, 0, none⟩ = some (.string ⟨n.1.toArray⟩) ∧ w'.cell? ⟨w.heap.size, 1, none⟩ = some (.slice A1 n.2.length k1)) (W0.drew.alloc (.cells #[] 74)) := ⟨cellA _ e0, cellA _ e1⟩
  refine hK _ _ hS1 ?_
  clear hK
  try simp only [Act.put, List.setIfInBounds_toArray, List.set_cons_zero, List.set_cons_succ]
  refine HT.one' (i := 5) rfl (by decide) (by kernel_rfl) (fun K hK => ?_)
  refine step_append_pts _ rfl _ _ rfl W0.heap.size _ [] rfl ?own _ n.2 rfl ?rd hm.1 ?len ?base ?_
  case own => exact World.ownsRow_made W0.drew #[] 0 (Nat.le_refl _) (Nat.zero_le _) rfl
  case rd => exact HV.out.keep (nextX hB0 (by go_grown))
  case len => simp; omega
  case base => go_size
  intro v' w' hown hb
  obtain ⟨Ar, cr, hr, -, -⟩ := ownsRow_slice hown
  subst hr
  have HO := Lib.hid (show OwP W0.heap.size 74 w' (.slice Ar n.2.length cr) n.2 by simpa using hown)
  have hX : Below W0.heap.size W0 w' := Below.trans (by go_grown) hb
  refine hK _ _ ⟨cellB hX e0, cellB hX e1⟩ ?_
  clear hK
  try simp only [Act.put, List.setIfInBounds_toArray, List.set_cons_zero, List.set_cons_succ]
  refine HT.done (by kernel_rfl) ?_
  simp only [List.drop_succ_cons, List.drop_zero]
  clear hS0 hS1
  replace r0 := slotB hX r0
  replace r1 := slotB hX r1
  have hdis : ∀ b, (Value.slice Ar n.2.length cr).ownBlock = some b → b ≠ w.heap.size + 1 := fun b hb => by
    have h := (World.ownsRow.lt HO.out b hb).1
    omega
  clear hown hb e0 e1
  obtain ⟨q0, k0⟩ := r0
  obtain ⟨q1, k1'⟩ := r1
  try simp only [List.nil_append]
  go_wp2_with fail
  refine bodyPost_ret (v := .agg #[.string ⟨n.1.toArray⟩, .slice Ar n.2.length cr]) (by simp [results, Tryd.results79, go_sem, q0, q1]) rfl ⟨Ar, cr, rfl, ?_, ?_⟩
  · have key : ∀ (o : Nat) (u : Value) (X : World), OwP w.heap.size 74 X (.slice Ar n.2.length cr) n.2 → OwP w.heap.size 74 (X.setCell ⟨w.heap.size + 1, o, none⟩ u) (.slice Ar n.2.length cr) n.2 := fun o u X h => by
      refine h.keepU (g := w.heap.size + 1) ((But.refl _ X).setCell _) ?_
      intro hh
      exact hdis _ hh rfl
    exact key _ _ _ (key _ _ _ (HO.out.low hB0.size))
  · have hXX := nextW hB0 hX
    go_grown

def woQ (ns : List Nm) (name : List UInt8) : List Nm := ns.filter fun n => decide (n.1 ≠ name)
def RelWo (ns : List Nm) (name : List UInt8) (w : World) (out i : Value) (wr : World) : Prop := ∃ k : Nat, k ≤ ns.length ∧ i = .int .i64 k ∧ OwN w.heap.size wr out (woQ (ns.take k) name) ∧ Below w.heap.size w wr
theorem woQ_next {ns : List Nm} {name : List UInt8} {k : Nat} {n : Nm} (h : ns[k]? = some n) : woQ (ns.take (k + 1)) name = woQ (ns.take k) name ++ (if n.1 ≠ name then [n] else []) := by
  unfold woQ
  rw [snocT h, List.filter_append]
  congr 1
  by_cases he : n.1 = name <;> simp [he]
set_option maxRecDepth 100000 in
set_option maxHeartbeats 3200000 in
theorem laWithout_is (ns : List Nm) (v : Value) (name : List UInt8) (w : World) (hv : RdE w v ns) (hn : ns.length ≤ 100000) (hms : MapsE ns) :
    Calls Tryd.prog 76 #[v, str name] w (RetN w (woQ ns name)) := by
  obtain ⟨A, c, rfl, hl, hmx, hcell⟩ := hv
  unfold maxLen at hmx
  have HC := Lib.hid hcell
  clear hcell
  go_enter Tryd.func76, Tryd.ntmps76
  go_wp2_with fail
  go_loopw [5, 10] (fun out i wr => RelWo ns name w out i wr) (fun _ i _ => ns.length - (intOf i).toNat)
  case atStart => exact ⟨0, Nat.zero_le _, rfl, OwN.nil _ _, by go_grown⟩
  case round =>
    obtain ⟨k, hk, rfl, hown, hb⟩ := hrel
    have HO := Lib.hid hown
    have hzr := hb.size
    clear hown
    by_cases hlt : k < ns.length
    · obtain ⟨g, o, rfl, hg, hcc⟩ := HC.out (by rintro rfl; simp at hlt)
      have hx := List.getElem?_eq_getElem hlt
      generalize ns[k] = n at *
      obtain ⟨c0, mv, c1, hp⟩ := hcc k n hx
      obtain ⟨A1, k1, rfl, -, -, -⟩ := id hp
      have HM := Lib.hid (hms n (List.mem_of_getElem? hx))
      have HP := Lib.hid (hp.keep hb)
      have HX := Lib.hid hx
      replace c0 := cellB hb c0
      replace c1 := cellB hb c1
      unfold str at c0
      have b0 : (0 : Int) ≤ (k : Int) := by omega
      have b1 : (k : Int) < (ns.length : Int) := by omega
      have v1 : IntKind.i64.wrap ((k : Int) + 1) = (k : Int) + 1 := IntWalk.i64_in _ (by omega)
      clear hp hx hcc HC
      have hq : ∀ W, (binOp .neq 9 (.string ⟨n.1.toArray⟩) (str name)).run Tryd.prog W = .ok (.bool (decide (n.1 ≠ name))) W := fun W => neq_str W n.1 name
      have hgd : ∀ (W : World) (a b : Operand), (eqGuard .neq 9 a b (.string ⟨n.1.toArray⟩) (str name)).run Tryd.prog W = .ok () W := fun W a b => by unfold str; go_simp
      have hnx := woQ_next (name := name) HX.out
      by_cases he : n.1 = name
      · have hd : decide (n.1 ≠ name) = false := by simpa using he
        rw [if_neg (by simpa using he), List.append_nil] at hnx
        have HE := Lib.hid hnx
        clear hnx he
        go_wp2_with fail
        go_roundw
        case rel => exact ⟨k + 1, by omega, by go_num, by rw [HE.out]; exact HO.out.keep (by go_grown), by go_grown⟩
        case measure => simp [intOf] <;> omega
      · have hd : decide (n.1 ≠ name) = true := by simpa using he
        rw [if_pos he] at hnx
        have HE := Lib.hid hnx
        have hwl : (woQ (ns.take k) name).length ≤ k := Nat.le_trans (List.length_filter_le _ _) (by rw [List.length_take]; omega)
        clear hnx he
        go_wp2_with fail
        refine (laOwn_is n _ _ (HP.out.keep (by go_grown)) HM.out).mono ?_
        rintro e w2 ⟨Ar, cr, rfl, ho, h2⟩
        have hX : Below wr.heap.size wr w2 := nextX (by go_grown) h2
        have HR := Lib.hid (ho.low (b := wr.heap.size) (by go_size))
        clear ho h2
        go_wp2_with (at_builtin; refine append_n wr _ rfl _ _ rfl w.heap.size _ (woQ (ns.take k) name) rfl HO.out ?hx _ _ n Ar n.2.length cr wr.heap.size rfl ?c0 ?c1 ?mv ?hb ?len ?base ?_)
        case hx => exact nextX hX (by go_grown)
        case c0 => simp [go_sem]
        case c1 => simp [go_sem]
        case mv => exact HR.out.keep (by go_grown)
        case hb => exact Nat.le_refl _
        case len => omega
        case base => exact hb.size
        intro v' w' hown h7
        have hB7 : Below w.heap.size w w' := Below.trans (nextW hb (nextX hX (by go_grown))) h7
        have HO7 := Lib.hid (show OwN w.heap.size w' v' (woQ (ns.take (k + 1)) name) by rw [HE.out]; exact hown)
        clear hown h7
        go_wp2_with fail
        go_roundw
        case rel => exact ⟨k + 1, by omega, by go_num, HO7.out, hB7⟩
        case measure => simp [intOf] <;> omega
    · obtain rfl : k = ns.length := by omega
      have HE := Lib.hid (show OwN w.heap.size wr _ (woQ ns name) by have := HO.out; rwa [List.take_length] at this)
      go_wp2_with fail
      go_ret
      exact ⟨_, rfl, HE.out, hb⟩

end Go.Proofs.YtmabngjmfjjogaaDoor
