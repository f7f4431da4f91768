/- Drawn maps: imGrid. UNDER WAY. -/
import Derived.Test.YtkeajfgcjmhmiaaDrG
import Derived.Test.YtkeajfgcjmhmiaaPut
namespace Go.Proofs.Ytkeajfgcjmhmiaa
open Go.RowKit

theorem OwQ.two (X : World) {base : Nat} (hb : base ≤ X.heap.size) : OwQ base 32 (X.alloc (.cells #[.int .i64 0, .int .i64 1, .int .i64 1, .int .i64 1] 32)) (.slice (some ⟨X.heap.size, 0, Option.none⟩) 2 2) [(0, 1), (1, 1)] :=
  ⟨rfl, .inr ⟨X.heap.size, 2, _, rfl, hb, heap_alloc_new _ _, Nat.le_refl _, by decide, rfl, rfl⟩⟩
theorem DS.more {g n m : Nat} {v : Value} {w0 w : World} (h : DS g v n w0 w) (hm : n ≤ m) : DS g v m w0 w := ⟨h.cur.more hm, h.code, h.but⟩
theorem insQ_ge (x : Q) : ∀ l : List Q, l.length ≤ (insQ x l).length
  | [] => Nat.zero_le _
  | y :: r => by
    have ih := insQ_ge x r
    unfold insQ
    split
    · simp only [List.length_cons]; omega
    · split
      · exact Nat.le_refl _
      · simp only [List.length_cons]; omega
theorem okL_two : OkL [(0, 1), (1, 1)] := by intro q hq; simp at hq; rcases hq with rfl | rfl <;> decide

/-- A drawn row of points. -/
def RowDrew (g : Nat) (v : Value) (m : Nat) (lo hi : Nat) (w : World) (e : Ending) (w' : World) : Prop := ∃ (r : Value) (ps : List Pt), e = .returned r ∧ OwP w.heap.size 43 w' r ps ∧ (lo ≤ ps.length ∧ ps.length ≤ hi) ∧ (∀ p ∈ ps, okQ p.1.1 p.1.2 = true ∧ okQ p.2.1 p.2.2 = true) ∧ Cur g v m w' ∧ But g w w'

def RelG1 (g : Nat) (v : Value) (n : Nat) (w : World) (xs tries : Value) (wr : World) : Prop := ∃ (l : List Q) (k : Nat), tries = .int .i64 k ∧ k ≤ 60 ∧ OwQ w.heap.size 32 wr xs l ∧ OkL l ∧ (2 ≤ l.length ∧ l.length ≤ k + 2) ∧ DS g v (n + 4 + k * 2) w wr
theorem DS.low {g n : Nat} {v : Value} {w0 w w' : World} (h : DS g v n w0 w) (h0 : Code g w0 v) (k : Below w0.heap.size w w') (hg : g < w0.heap.size) : DS g v n w0 w' := by
  have sl : ∀ {o : Nat} {u : Value}, Slot w g o u → Slot w' g o u := fun {o u} hs => ⟨(k.cell (p := ⟨g, o, Option.none⟩) hg).trans hs.1, (World.frozen?_of_block (w := w) (k.block g hg)).trans hs.2⟩
  have hb : But g w0 w' := ⟨k.os.trans h.but.os, k.tape.trans h.but.tape, k.output.trans h.but.output, Nat.le_trans h.but.size k.size, fun b hb hn => (k.block b hb).trans (h.but.block b hb hn)⟩
  obtain ⟨h1, ⟨a, ha, h2⟩, s, s0, s1, h3⟩ := h.cur
  exact ⟨⟨sl h1, ⟨a, ha, sl h2⟩, s, s0, s1, sl h3⟩, h0.keepU hb, hb⟩
def RelG2 (g : Nat) (v : Value) (n : Nat) (w : World) (l : List Q) (out jv : Value) (wr : World) : Prop := ∃ (ps : List Pt) (j : Nat), jv = .int .i64 j ∧ j ≤ l.length ∧ OwP w.heap.size 43 wr out ps ∧ ps.length = j ∧ (∀ p ∈ ps, okQ p.1.1 p.1.2 = true ∧ okQ p.2.1 p.2.2 = true) ∧ DS g v (n + 130 + j * 2) w wr
theorem OwP.blk {b : Nat} {e : TypeId} {w : World} {v : Value} {ps : List Pt} (h : OwP b e w v ps) : ∀ k, v.ownBlock = some k → b ≤ k := fun k hk => (World.ownsRow.lt h k hk).1
set_option maxRecDepth 100000 in
set_option maxHeartbeats 3200000 in
theorem imGrid_is (g : Nat) (v : Value) (n : Nat) (N : Int) (w : World) (hc : Cur g v n w) (hv : Code g w v) (hn : n + 400 ≤ 1000000000) (hN : 1 ≤ N ∧ N ≤ 1000000) :
    Calls Try.prog 77 #[.pointer (some ⟨g, 0, none⟩), .int .i64 N] w (RowDrew g v (n + 300) 2 62 w) := by
  have hg := lt_of_cell hc.code.1
  have HD := Lib.hid (DS.start hc hv)
  clear hc hv
  go_enter Try.func77, Try.ntmps77
  go_wp2_with fail
  refine (among_is g v _ [0, 1, 1, 2, 3] _ _ (HD.out.cur.keep (by go_grown)) (HD.out.code.keep (by go_grown)) (by omega) (RdN.made .i64 _ [0, 1, 1, 2, 3] _ (by simp [maxLen])) (by intro b o n c h; injection h with h; injection h with h; injection h with h; omega) (by simp)).mono ?_
  rintro e w1 ⟨m, rfl, hm, hc, hb⟩
  have HD1 := Lib.hid (HD.out.step (by go_grown) hc hb)
  have bm : 0 ≤ m ∧ m ≤ 3 := by simp at hm; omega
  clear hc hb hm
  have gl1 := HD1.out.lt
  go_wp2_with fail
  refine (one_is g v _ 16 _ (HD1.out.cur.keep (by go_grown)) (HD1.out.code.keep (by go_grown)) (by omega) (by omega)).mono ?_
  rintro e w2 ⟨b, rfl, hc, hb⟩
  have HD2 := Lib.hid (HD1.out.step (by go_grown) hc hb)
  clear hc hb
  have gl2 := HD2.out.lt
  have hz2 := HD2.out.but.size
  go_upto_if 15 with fail
  go_cut [5] (fun s5 wx => ∃ M : Int, s5 = .int .i64 M ∧ (0 ≤ M ∧ M ≤ 10) ∧ wx = w2)
  case first =>
    rcases b with _ | _
    · go_wp2_with fail
      go_meet
      exact ⟨m, rfl, by omega, rfl⟩
    · go_wp2_with fail
      go_meet
      exact ⟨10, rfl, by omega, rfl⟩
  case rest =>
    obtain ⟨M, rfl, bM, rfl⟩ := hcut
    have vM : IntKind.i64.wrap (M + 2) = M + 2 := IntWalk.i64_in _ (by omega)
    go_wp2_with fail
    refine (raInt_any 0 _).mono ?_
    rintro e w3 ⟨rfl, hb⟩
    have hX3 := nextX (X := wc) (by go_grown) hb
    clear hb
    go_wp2_with fail
    refine (raInt_any 1 _).mono ?_
    rintro e w4 ⟨rfl, hb⟩
    have hX4 := nextW hX3 (nextX (by go_grown) hb)
    have HD4 := Lib.hid (HD2.out.grow hX4)
    clear hb
    have gl4 := HD4.out.lt
    have hz4 := hX4.size
    go_wp2_with fail
    go_loopw [6, 7] (fun xs tries wr => RelG1 g v n w xs tries wr) (fun _ tries _ => 60 - (intOf tries).toNat)
    case atStart => exact ⟨[(0, 1), (1, 1)], 0, rfl, by omega, OwQ.two _ (by omega), okL_two, by simp, (HD4.out.grow (by go_grown)).more (by omega)⟩
    case round =>
      obtain ⟨l, k, rfl, hk, hown, hok, ⟨hl1, hl2⟩, hds⟩ := hrel
      obtain ⟨A, c, rfl, -, -⟩ := ownsRow_slice hown
      have hbl : ∀ b, (Value.slice A l.length c).ownBlock = some b → b ≠ g := fun b hb => by have := (World.ownsRow.lt hown b hb).1; omega
      have HO := Lib.hid hown
      have HOK := Lib.hid hok
      have HDS := Lib.hid hds
      have hzr := hds.but.size
      have glr := hds.lt
      clear hown hok hds
      by_cases ht : (l.length : Int) < M + 2
      · have ht' : decide ((l.length : Int) < M + 2) = true := decide_eq_true ht
        by_cases hk6 : k < 60
        · have b0 : (k : Int) < 60 := by omega
          have v1 : IntKind.i64.wrap ((k : Int) + 1) = (k : Int) + 1 := IntWalk.i64_in _ (by omega)
          go_wp2_with fail
          refine (gridRat_is g v _ N _ (HDS.out.cur.keep (by go_grown)) (HDS.out.code.keep (by go_grown)) (by omega) hN).mono ?_
          rintro e w5 ⟨a, b, rfl, hab, hc, hb⟩
          have HD5 := Lib.hid (HDS.out.step (by go_grown) hc hb)
          have HO5 := Lib.hid ((HO.out.keep (w' := wr) (Below.refl _ _)).keepU hb (fun h => hbl g h rfl))
          have hz5 := HD5.out.but.size
          clear hc hb
          go_wp2_with fail
          refine (imPut_is w.heap.size l _ a b _ (HO5.out.keep (by go_grown)) HOK.out hab (by omega) (by go_size)).mono ?_
          rintro e w6 ⟨r, rfl, ho, hb⟩
          have hX6 : Below w5.heap.size w5 w6 := nextX (by go_grown) hb
          have HD6 := Lib.hid (HD5.out.grow hX6)
          have HO6 := Lib.hid ho
          have hil := insQ_len (a, b) l
          have hil2 := insQ_ge (a, b) l
          clear hb ho
          go_wp2_with fail
          go_roundw
          case rel => exact ⟨insQ (a, b) l, k + 1, by go_num, by omega, HO6.out, insQ_ok hab HOK.out, by omega, HD6.out.more (by omega)⟩
          case measure => simp [intOf] <;> omega
        · have b0 : ¬ (k : Int) < 60 := by omega
          have b0' : decide ((k : Int) < 60) = false := decide_eq_false b0
          obtain ⟨wo, hwo⟩ : ∃ wo, wo = wr := ⟨_, rfl⟩
          subst hwo
          go_wp2_with fail
          go_loopw [8, 37] (fun out jv wr => RelG2 g v n wo l out jv wr) (fun _ jv _ => l.length - (intOf jv).toNat)
          case atStart => exact ⟨[], 0, rfl, Nat.zero_le _, World.ownsRow_nil _ _ _ _, rfl, by simp, ((DS.start HDS.out.cur HDS.out.code).grow (by go_grown)).more (by omega)⟩
          case round =>
            obtain ⟨ps, j, rfl, hj, hps, hpl, hpo, hds2⟩ := hrel
            have HP2 := Lib.hid hps
            have HPO := Lib.hid hpo
            have HD2' := Lib.hid hds2
            have hz2' := hds2.but.size
            have gl2' := hds2.lt
            have hbp := hps.blk
            have hxs := HO.out.keepU hds2.but (fun h => hbl g h rfl)
            clear hpo hds2
            by_cases hlt : j < l.length
            · have hx := List.getElem?_eq_getElem hlt
              generalize l[j] = q at *
              obtain ⟨q1, q2⟩ := q
              obtain ⟨gx, cx, hvx, -, -, -, -, hcx⟩ := OwQ.lit hxs rfl (by omega)
              injection hvx with hA _ hcc
              subst hA
              subst hcc
              obtain ⟨c0, c1⟩ := hcx j (q1, q2) hx
              have hqo := Lib.hid (HOK.out (q1, q2) (List.mem_of_getElem? hx))
              have d0 : (0 : Int) ≤ (j : Int) := by omega
              have d1 : (j : Int) < (l.length : Int) := by omega
              have v1 : IntKind.i64.wrap ((j : Int) + 1) = (j : Int) + 1 := IntWalk.i64_in _ (by omega)
              clear hcx hx hxs hps
              go_wp2_with fail
              go_name_world W0 hW
              have e0 : W0.cell? ⟨wr.heap.size, 0, Option.none⟩ = some (.int .i64 q1) := by rw [← hW]; simp [go_sem]
              have e1 : W0.cell? ⟨wr.heap.size, 1, Option.none⟩ = some (.int .i64 q2) := by rw [← hW]; simp [go_sem]
              have hB0 : Below wr.heap.size wr W0 := by rw [← hW]; go_grown
              have hz0 := lt_of_cell e0
              clear hW c0 c1
              refine wp_region_HT (S := (fun w' : World => w'.cell? ⟨wr.heap.size, 0, Option.none⟩ = some (.int .i64 q1) ∧ w'.cell? ⟨wr.heap.size, 1, Option.none⟩ = some (.int .i64 q2))) 7 (by kernel_rfl) (by kernel_rfl) ?_
              have hS0 : (fun w' : World => w'.cell? ⟨wr.heap.size, 0, Option.none⟩ = some (.int .i64 q1) ∧ w'.cell? ⟨wr.heap.size, 1, Option.none⟩ = some (.int .i64 q2)) _ := ⟨e0, e1⟩
              refine HT.take' (i := 0) (v := ?_) rfl (by kernel_rfl) (by decide) (by kernel_rfl) (by kernel_rfl) (fun _ _ _ h => h) (by rfl) (fun w' hS => ?_) hS0 ?_
              rotate_left
              focus
                obtain ⟨k0, k1⟩ := hS
                go_simp
                try with_reducible rfl
                done
              simp only [Act.put, List.setIfInBounds_toArray, List.set_cons_zero, List.set_cons_succ]
              refine HT.take' (i := 1) (v := ?_) rfl (by kernel_rfl) (by decide) (by kernel_rfl) (by kernel_rfl) (fun _ _ _ h => h) (by rfl) (fun w' hS => ?_) hS0 ?_
              rotate_left
              focus
                obtain ⟨k0, k1⟩ := hS
                go_simp
                try with_reducible rfl
                done
              simp only [Act.put, List.setIfInBounds_toArray, List.set_cons_zero, List.set_cons_succ]
              refine HT.take' (i := 2) (v := ?_) rfl (by kernel_rfl) (by decide) (by kernel_rfl) (by kernel_rfl) (fun _ _ _ h => h) (by rfl) (fun w' hS => ?_) hS0 ?_
              rotate_left
              focus
                obtain ⟨k0, k1⟩ := hS
                go_simp
                try with_reducible rfl
                done
              simp only [Act.put, List.setIfInBounds_toArray, List.set_cons_zero, List.set_cons_succ]
              refine HT.take' (i := 3) (v := ?_) rfl (by kernel_rfl) (by decide) (by kernel_rfl) (by kernel_rfl) (fun _ _ _ h => h) (by rfl) (fun w' hS => ?_) hS0 ?_
              rotate_left
              focus
                obtain ⟨k0, k1⟩ := hS
                go_simp
                try with_reducible rfl
                done
              simp only [Act.put, List.setIfInBounds_toArray, List.set_cons_zero, List.set_cons_succ]
              refine HT.one' (i := 4) rfl (by decide) (by kernel_rfl) (fun K hK => ?_)
              go_simp
              refine (gridRat_is g v _ N _ (HD2'.out.cur.keep (nextX hB0 (by go_grown))) (HD2'.out.code.keep (nextX hB0 (by go_grown))) (by omega) hN).mono ?_
              rintro e w5 ⟨a, b, rfl, hab, hc, hb⟩
              have HD5 := Lib.hid (HD2'.out.step (nextX hB0 (by go_grown)) hc hb)
              have hne : wr.heap.size ≠ g := by omega
              have k0 : w5.cell? ⟨wr.heap.size, 0, Option.none⟩ = some (.int .i64 q1) := cellU hb hne e0
              have k1 : w5.cell? ⟨wr.heap.size, 1, Option.none⟩ = some (.int .i64 q2) := cellU hb hne e1
              have HO5 := Lib.hid (OwP.keepU (OwP.keep HP2.out (nextX hB0 (by go_grown))) hb (fun h => by have := hbp g h; omega))
              have hz5 := HD5.out.but.size
              clear hc hb
              go_wp2_with fail
              refine hK _ _ ⟨k0, k1⟩ ?_
              clear hK
              try simp only [Act.put, List.setIfInBounds_toArray, List.set_cons_zero, List.set_cons_succ]
              have hS1 : (fun w' : World => w'.cell? ⟨wr.heap.size, 0, Option.none⟩ = some (.int .i64 q1) ∧ w'.cell? ⟨wr.heap.size, 1, Option.none⟩ = some (.int .i64 q2)) _ := ⟨k0, k1⟩
              refine HT.take' (i := 5) (v := ?_) rfl (by kernel_rfl) (by decide) (by kernel_rfl) (by kernel_rfl) (fun _ _ _ h => h) (by rfl) (fun w' hS => ?_) hS1 ?_
              rotate_left
              focus
                obtain ⟨k0, k1⟩ := hS
                go_simp
                try with_reducible rfl
                done
              simp only [Act.put, List.setIfInBounds_toArray, List.set_cons_zero, List.set_cons_succ]
              refine HT.one' (i := 6) rfl (by decide) (by kernel_rfl) (fun K hK => ?_)
              go_simp
              refine hK _ _ ⟨cellA _ k0, cellA _ k1⟩ ?_
              clear hK
              try simp only [Act.put, List.setIfInBounds_toArray, List.set_cons_zero, List.set_cons_succ]
              refine HT.done (by kernel_rfl) ?_
              simp only [List.drop_succ_cons, List.drop_zero]
              clear hS0 hS1 e0 e1 k0 k1
              go_wp2_with (at_builtin; refine append_p1 _ rfl _ _ rfl wo.heap.size _ ps rfl (HO5.out.keep (by go_grown)) w5.heap.size _ q1 q2 a b rfl ?c0 ?c1 ?c2 ?c3 ?len ?base ?_)
              case c0 => simp [go_sem]
              case c1 => simp [go_sem]
              case c2 => simp [go_sem]
              case c3 => simp [go_sem]
              case len => omega
              case base => go_size
              intro v' w' hown h7
              have HD7 := Lib.hid (DS.low (HD5.out.grow (by go_grown)) HDS.out.code h7 glr)
              have HO7 := Lib.hid hown
              clear hown h7
              go_wp2_with fail
              go_roundw
              case rel => exact ⟨ps ++ [((q1, q2), a, b)], j + 1, by go_num, by omega, HO7.out, by simp; omega, fun p hp => (List.mem_append.1 hp).elim (HPO.out p) (fun h => by rw [List.mem_singleton] at h; subst h; exact ⟨hqo.out, hab⟩), HD7.out.more (by omega)⟩
              case measure => simp [intOf] <;> omega
            · obtain rfl : j = l.length := by omega
              clear hxs hps
              go_wp2_with fail
              go_ret
              exact ⟨_, ps, rfl, OwP.low HP2.out (by omega), by omega, HPO.out, HD2'.out.cur.more (by omega), HDS.out.but.trans HD2'.out.but⟩
      · have ht' : decide ((l.length : Int) < M + 2) = false := decide_eq_false ht
        obtain ⟨wo, hwo⟩ : ∃ wo, wo = wr := ⟨_, rfl⟩
        subst hwo
        go_wp2_with fail
        go_loopw [8, 37] (fun out jv wr => RelG2 g v n wo l out jv wr) (fun _ jv _ => l.length - (intOf jv).toNat)
        case atStart => exact ⟨[], 0, rfl, Nat.zero_le _, World.ownsRow_nil _ _ _ _, rfl, by simp, ((DS.start HDS.out.cur HDS.out.code).grow (by go_grown)).more (by omega)⟩
        case round =>
          obtain ⟨ps, j, rfl, hj, hps, hpl, hpo, hds2⟩ := hrel
          have HP2 := Lib.hid hps
          have HPO := Lib.hid hpo
          have HD2' := Lib.hid hds2
          have hz2' := hds2.but.size
          have gl2' := hds2.lt
          have hbp := hps.blk
          have hxs := HO.out.keepU hds2.but (fun h => hbl g h rfl)
          clear hpo hds2
          by_cases hlt : j < l.length
          · have hx := List.getElem?_eq_getElem hlt
            generalize l[j] = q at *
            obtain ⟨q1, q2⟩ := q
            obtain ⟨gx, cx, hvx, -, -, -, -, hcx⟩ := OwQ.lit hxs rfl (by omega)
            injection hvx with hA _ hcc
            subst hA
            subst hcc
            obtain ⟨c0, c1⟩ := hcx j (q1, q2) hx
            have hqo := Lib.hid (HOK.out (q1, q2) (List.mem_of_getElem? hx))
            have d0 : (0 : Int) ≤ (j : Int) := by omega
            have d1 : (j : Int) < (l.length : Int) := by omega
            have v1 : IntKind.i64.wrap ((j : Int) + 1) = (j : Int) + 1 := IntWalk.i64_in _ (by omega)
            clear hcx hx hxs hps
            go_wp2_with fail
            go_name_world W0 hW
            have e0 : W0.cell? ⟨wr.heap.size, 0, Option.none⟩ = some (.int .i64 q1) := by rw [← hW]; simp [go_sem]
            have e1 : W0.cell? ⟨wr.heap.size, 1, Option.none⟩ = some (.int .i64 q2) := by rw [← hW]; simp [go_sem]
            have hB0 : Below wr.heap.size wr W0 := by rw [← hW]; go_grown
            have hz0 := lt_of_cell e0
            clear hW c0 c1
            refine wp_region_HT (S := (fun w' : World => w'.cell? ⟨wr.heap.size, 0, Option.none⟩ = some (.int .i64 q1) ∧ w'.cell? ⟨wr.heap.size, 1, Option.none⟩ = some (.int .i64 q2))) 7 (by kernel_rfl) (by kernel_rfl) ?_
            have hS0 : (fun w' : World => w'.cell? ⟨wr.heap.size, 0, Option.none⟩ = some (.int .i64 q1) ∧ w'.cell? ⟨wr.heap.size, 1, Option.none⟩ = some (.int .i64 q2)) _ := ⟨e0, e1⟩
            refine HT.take' (i := 0) (v := ?_) rfl (by kernel_rfl) (by decide) (by kernel_rfl) (by kernel_rfl) (fun _ _ _ h => h) (by rfl) (fun w' hS => ?_) hS0 ?_
            rotate_left
            focus
              obtain ⟨k0, k1⟩ := hS
              go_simp
              try with_reducible rfl
              done
            simp only [Act.put, List.setIfInBounds_toArray, List.set_cons_zero, List.set_cons_succ]
            refine HT.take' (i := 1) (v := ?_) rfl (by kernel_rfl) (by decide) (by kernel_rfl) (by kernel_rfl) (fun _ _ _ h => h) (by rfl) (fun w' hS => ?_) hS0 ?_
            rotate_left
            focus
              obtain ⟨k0, k1⟩ := hS
              go_simp
              try with_reducible rfl
              done
            simp only [Act.put, List.setIfInBounds_toArray, List.set_cons_zero, List.set_cons_succ]
            refine HT.take' (i := 2) (v := ?_) rfl (by kernel_rfl) (by decide) (by kernel_rfl) (by kernel_rfl) (fun _ _ _ h => h) (by rfl) (fun w' hS => ?_) hS0 ?_
            rotate_left
            focus
              obtain ⟨k0, k1⟩ := hS
              go_simp
              try with_reducible rfl
              done
            simp only [Act.put, List.setIfInBounds_toArray, List.set_cons_zero, List.set_cons_succ]
            refine HT.take' (i := 3) (v := ?_) rfl (by kernel_rfl) (by decide) (by kernel_rfl) (by kernel_rfl) (fun _ _ _ h => h) (by rfl) (fun w' hS => ?_) hS0 ?_
            rotate_left
            focus
              obtain ⟨k0, k1⟩ := hS
              go_simp
              try with_reducible rfl
              done
            simp only [Act.put, List.setIfInBounds_toArray, List.set_cons_zero, List.set_cons_succ]
            refine HT.one' (i := 4) rfl (by decide) (by kernel_rfl) (fun K hK => ?_)
            go_simp
            refine (gridRat_is g v _ N _ (HD2'.out.cur.keep (nextX hB0 (by go_grown))) (HD2'.out.code.keep (nextX hB0 (by go_grown))) (by omega) hN).mono ?_
            rintro e w5 ⟨a, b, rfl, hab, hc, hb⟩
            have HD5 := Lib.hid (HD2'.out.step (nextX hB0 (by go_grown)) hc hb)
            have hne : wr.heap.size ≠ g := by omega
            have k0 : w5.cell? ⟨wr.heap.size, 0, Option.none⟩ = some (.int .i64 q1) := cellU hb hne e0
            have k1 : w5.cell? ⟨wr.heap.size, 1, Option.none⟩ = some (.int .i64 q2) := cellU hb hne e1
            have HO5 := Lib.hid (OwP.keepU (OwP.keep HP2.out (nextX hB0 (by go_grown))) hb (fun h => by have := hbp g h; omega))
            have hz5 := HD5.out.but.size
            clear hc hb
            go_wp2_with fail
            refine hK _ _ ⟨k0, k1⟩ ?_
            clear hK
            try simp only [Act.put, List.setIfInBounds_toArray, List.set_cons_zero, List.set_cons_succ]
            have hS1 : (fun w' : World => w'.cell? ⟨wr.heap.size, 0, Option.none⟩ = some (.int .i64 q1) ∧ w'.cell? ⟨wr.heap.size, 1, Option.none⟩ = some (.int .i64 q2)) _ := ⟨k0, k1⟩
            refine HT.take' (i := 5) (v := ?_) rfl (by kernel_rfl) (by decide) (by kernel_rfl) (by kernel_rfl) (fun _ _ _ h => h) (by rfl) (fun w' hS => ?_) hS1 ?_
            rotate_left
            focus
              obtain ⟨k0, k1⟩ := hS
              go_simp
              try with_reducible rfl
              done
            simp only [Act.put, List.setIfInBounds_toArray, List.set_cons_zero, List.set_cons_succ]
            refine HT.one' (i := 6) rfl (by decide) (by kernel_rfl) (fun K hK => ?_)
            go_simp
            refine hK _ _ ⟨cellA _ k0, cellA _ k1⟩ ?_
            clear hK
            try simp only [Act.put, List.setIfInBounds_toArray, List.set_cons_zero, List.set_cons_succ]
            refine HT.done (by kernel_rfl) ?_
            simp only [List.drop_succ_cons, List.drop_zero]
            clear hS0 hS1 e0 e1 k0 k1
            go_wp2_with (at_builtin; refine append_p1 _ rfl _ _ rfl wo.heap.size _ ps rfl (HO5.out.keep (by go_grown)) w5.heap.size _ q1 q2 a b rfl ?c0 ?c1 ?c2 ?c3 ?len ?base ?_)
            case c0 => simp [go_sem]
            case c1 => simp [go_sem]
            case c2 => simp [go_sem]
            case c3 => simp [go_sem]
            case len => omega
            case base => go_size
            intro v' w' hown h7
            have HD7 := Lib.hid (DS.low (HD5.out.grow (by go_grown)) HDS.out.code h7 glr)
            have HO7 := Lib.hid hown
            clear hown h7
            go_wp2_with fail
            go_roundw
            case rel => exact ⟨ps ++ [((q1, q2), a, b)], j + 1, by go_num, by omega, HO7.out, by simp; omega, fun p hp => (List.mem_append.1 hp).elim (HPO.out p) (fun h => by rw [List.mem_singleton] at h; subst h; exact ⟨hqo.out, hab⟩), HD7.out.more (by omega)⟩
            case measure => simp [intOf] <;> omega
          · obtain rfl : j = l.length := by omega
            clear hxs hps
            go_wp2_with fail
            go_ret
            exact ⟨_, ps, rfl, OwP.low HP2.out (by omega), by omega, HPO.out, HD2'.out.cur.more (by omega), HDS.out.but.trans HD2'.out.but⟩

end Go.Proofs.Ytkeajfgcjmhmiaa
