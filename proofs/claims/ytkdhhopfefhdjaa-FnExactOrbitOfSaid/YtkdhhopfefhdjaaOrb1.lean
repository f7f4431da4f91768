/- Orbits: the program's orbit, the reference's orRun. -/
import Derived.Test.YtkdhhopfefhdjaaOrbM
import Derived.Test.YtkdhhopfefhdjaaOwn
namespace Go.Proofs.Ytkdhhopfefhdjaa
open Go.RowKit

def RelOrb (ps : List Pt) (x : Q) (n h : Nat) (W0 : World) (out i : Value) (wr : World) : Prop :=
  ∃ (k : Nat) (y : Q), k ≤ n ∧ i = .int .i64 k ∧ (orbQ ps x k).length = k + 1 ∧ (orbQ ps x k)[k]? = some y ∧ OwQ (h + 1) 34 wr out (orbQ ps x k) ∧ Slot wr h 0 (.int .i64 y.1) ∧ Slot wr h 1 (.int .i64 y.2) ∧ Slot wr (h + 2) 0 (.bool false) ∧ Below h W0 wr

theorem append_last {α : Type} {l : List α} {k : Nat} (z : α) (h : l.length = k) : (l ++ [z])[k]? = some z := by
  rw [List.getElem?_append_right (by omega)]; simp [h]

set_option maxHeartbeats 1600000 in
theorem orbit_is (ps : List Pt) (v : Value) (x1 x2 : Int) (n : Nat) (w : World) (hv : RdP w v ps) (hm : okMap ps = true) (hx : unitQ x1 x2 = true) (hn : n ≤ 60) :
    Calls Try.prog 94 #[v, .agg #[.int .i64 x1, .int .i64 x2], .int .i64 n] w (RetQ w (orbQ ps (x1, x2) n)) := by
  have HV := Lib.hid hv
  have HM := Lib.hid hm
  have HU := Lib.hid (orbQ_unit (x := (x1, x2)) hm hx)
  have HOld := Lib.hid (hv.old (okMap_ne hm) (g := w.heap.size + 2) (by omega))
  clear hv hm
  go_enter Try.func94, Try.ntmps94
  go_wp2_with fail
  go_name_world W0 hW
  have hB0 : Below w.heap.size w W0 := by rw [← hW]; go_grown
  have s0 : Slot W0 w.heap.size 0 (.int .i64 x1) := by rw [← hW]; exact ⟨by simp [go_sem], by simp [go_sem]⟩
  have s1 : Slot W0 w.heap.size 1 (.int .i64 x2) := by rw [← hW]; exact ⟨by simp [go_sem], by simp [go_sem]⟩
  have s2 : Slot W0 (w.heap.size + 2) 0 (.bool false) := by rw [← hW]; exact ⟨by simp [go_sem], by simp [go_sem]⟩
  have o0 : OwQ (w.heap.size + 1) 34 W0 (.slice (some ⟨w.heap.size + 1, 0, none⟩) 1 1) [(x1, x2)] := by
    rw [← hW]
    have h1 := OwQ.one (w.alloc (.cells #[.int .i64 x1, .int .i64 x2] 34)) (w.heap.size + 1) 34 x1 x2 (by simp)
    rw [World.size_alloc] at h1
    exact h1.keep (by go_grown)
  have HS0 := Lib.hid (And.intro s0 (And.intro s1 (And.intro s2 o0)))
  clear hW s0 s1 s2 o0
  go_loopw [7, 12] (fun out i wr => RelOrb ps (x1, x2) n w.heap.size W0 out i wr) (fun _ i _ => n - (intOf i).toNat)
  case atStart => exact ⟨0, (x1, x2), Nat.zero_le _, rfl, rfl, rfl, HS0.out.2.2.2, HS0.out.1, HS0.out.2.1, HS0.out.2.2.1, Below.refl _ _⟩
  case round =>
    obtain ⟨k, ⟨y1, y2⟩, hk, rfl, hlen, hy, hown, hs0, hs1, hs2, hb⟩ := hrel
    have HO := Lib.hid hown
    have HL := Lib.hid hlen
    have HY := Lib.hid hy
    have hu := HU.out k _ (List.mem_of_getElem? hy)
    have z2 := lt_of_cell hs2.1
    clear hown hlen hy
    by_cases hlt : k < n
    · rcases hz : valQ ps (y1, y2) with ⟨⟨z1, z2⟩, t⟩
      have HZ := Lib.hid hz
      have HUu := Lib.hid hu
      obtain ⟨c0, f0⟩ := hs0
      obtain ⟨c1, f1⟩ := hs1
      have HS := Lib.hid hs2
      clear hz hu hs2
      go_wp2_with fail
      refine (value_is ps v y1 y2 z1 z2 t false (!t) (w.heap.size + 2) _ HS.out (HV.out.keep (Below.trans hB0 hb)) HOld.out HM.out HUu.out HZ.out (by cases t <;> rfl)).mono ?_
      rintro e w1 ⟨rfl, g1, k1⟩
      have hlt2 := k1.size
      have d0 := slotU k1 (by omega) ⟨c0, f0⟩
      have d1 := slotU k1 (by omega) ⟨c1, f1⟩
      have hne := HO.out.ne_bool HS.out.1 (.inl (orbQ_ne _ _ _))
      have o1 : OwQ (w.heap.size + 1) 34 w1 u7 (orbQ ps (x1, x2) k) := HO.out.keepU k1 hne
      have HNE := Lib.hid hne
      have hb1 : Below w.heap.size W0 w1 := But.below hb k1 (by omega) (by omega)
      have HO1 := Lib.hid o1
      clear c0 c1 f0 f1 o1 k1 hb hne
      obtain ⟨c0, f0⟩ := d0
      obtain ⟨c1, f1⟩ := d1
      obtain ⟨c2, f2⟩ := g1
      have y0 := lt_of_cell c0
      rcases t with _ | _
      · go_wp2_with fail
        go_ret
        refine ⟨_, rfl, ?_, Below.trans hB0 (by go_grown)⟩
        rw [orbQ_stopped HL.out HY.out HZ.out hk]
        exact (HO1.out.keepU (((But.refl _ _).setCell _).setCell _) (HO1.out.ne_low (by omega))).low (by omega)
      · go_wp2_with (at_builtin; refine append_q1g _ rfl _ _ rfl (w.heap.size + 1) _ (orbQ ps (x1, x2) k) rfl ?own _ _ z1 z2 rfl ?c0 ?c1 ?len ?base ?_)
        case own => exact HO1.out.keepU ((((But.refl _ _).setCell _).setCell _).alloc _) (HO1.out.ne_low (by omega))
        case c0 => simp [go_sem]
        case c1 => simp [go_sem]
        case len => rw [HL.out]; omega
        case base => go_size
        intro v' w' hown hg
        have q0 := grown_slot hg (slotA _ (slotS (slotN ⟨c0, f0⟩) (by simp))) (HO1.out.ne_low (by omega))
        have q1 := grown_slot hg (slotA _ (slotN (slotS ⟨c1, f1⟩ (by simp)))) (HO1.out.ne_low (by omega))
        have q2 := grown_slot hg (slotA _ (slotS (slotS ⟨c2, f2⟩ (by simp)) (by simp))) HNE.out
        have hB : Below w.heap.size W0 w' := Below.grown (by go_grown) hg (by go_size) (fun k hk => Nat.le_of_succ_le (HO1.out.from hk))
        have HO2 := Lib.hid hown
        have HR := Lib.hid (And.intro q0 (And.intro q1 q2))
        clear hown hg q0 q1 q2 c0 c1 c2 f0 f1 f2 hb1 HO HO1
        have hgo := orbQ_go HL.out HY.out HZ.out
        go_wp2_with fail
        go_roundw
        case rel => exact ⟨k + 1, (z1, z2), by omega, by go_num, by rw [hgo, List.length_append, HL.out]; rfl, by rw [hgo]; exact append_last _ HL.out, by rw [hgo]; exact HO2.out, HR.out.1, HR.out.2.1, HR.out.2.2, hB⟩
        case measure => simp [intOf]; omega
    · obtain rfl : k = n := by omega
      go_wp2_with fail
      go_ret
      exact ⟨_, rfl, HO.out.low (by omega), Below.trans hB0 hb⟩

end Go.Proofs.Ytkdhhopfefhdjaa
