/- The program's line: a value on the line through a point. -/
import Derived.Test.YtkdhhopfefhdjaaCalc2
import Derived.Test.YtkdhhopfefhdjaaSlopeM
import Derived.Deep.RegionHeld3
import Derived.Deep.DrawnRows
namespace Go.Proofs.Ytkdhhopfefhdjaa
open Go.RowKit

/-- A point and two fractions in their boxes. -/
def BoxL (h : Nat) (p1 p2 p3 p4 s1 s2 x1 x2 : Int) (w' : World) : Prop :=
  w'.cell? ⟨h, 0, none⟩ = some (.int .i64 p1) ∧ w'.cell? ⟨h, 1, none⟩ = some (.int .i64 p2) ∧ w'.cell? ⟨h, 2, none⟩ = some (.int .i64 p3) ∧ w'.cell? ⟨h, 3, none⟩ = some (.int .i64 p4) ∧ w'.cell? ⟨h + 1, 0, none⟩ = some (.int .i64 s1) ∧ w'.cell? ⟨h + 1, 1, none⟩ = some (.int .i64 s2) ∧ w'.cell? ⟨h + 2, 0, none⟩ = some (.int .i64 x1) ∧ w'.cell? ⟨h + 2, 1, none⟩ = some (.int .i64 x2)
theorem BoxL.keepU {h g : Nat} {p1 p2 p3 p4 s1 s2 x1 x2 : Int} {X w1 : World} (k : BoxL h p1 p2 p3 p4 s1 s2 x1 x2 X) (hb : But g X w1) (hg : g < h) : BoxL h p1 p2 p3 p4 s1 s2 x1 x2 w1 :=
  ⟨cellU hb (by omega) k.1, cellU hb (by omega) k.2.1, cellU hb (by omega) k.2.2.1, cellU hb (by omega) k.2.2.2.1, cellU hb (by omega) k.2.2.2.2.1, cellU hb (by omega) k.2.2.2.2.2.1, cellU hb (by omega) k.2.2.2.2.2.2.1, cellU hb (by omega) k.2.2.2.2.2.2.2⟩
theorem BoxL.store {h : Nat} {p1 p2 p3 p4 s1 s2 x1 x2 : Int} {X : World} (k : BoxL h p1 p2 p3 p4 s1 s2 x1 x2 X) (g o : Nat) (v : Value) (hg : h + 3 ≤ g) : BoxL h p1 p2 p3 p4 s1 s2 x1 x2 (X.setCell ⟨g, o, none⟩ v) := by
  refine ⟨?_, ?_, ?_, ?_, ?_, ?_, ?_, ?_⟩ <;> rw [World.cell?_setCell_other _ _ _ _ (by simp only [ne_eq, Addr.mk.injEq]; omega)]
  · exact k.1
  · exact k.2.1
  · exact k.2.2.1
  · exact k.2.2.2.1
  · exact k.2.2.2.2.1
  · exact k.2.2.2.2.2.1
  · exact k.2.2.2.2.2.2.1
  · exact k.2.2.2.2.2.2.2

theorem But.drew {g : Nat} {a w : World} (h : But g a w) : But g a w.drew := ⟨h.os, h.tape, h.output, h.size, h.block⟩
theorem slotD {X : World} {b o : Nat} {v : Value} (h : Slot X b o v) : Slot X.drew b o v := h
theorem new_ne {g n : Nat} (h : g < n) (k : Nat) : n + k ≠ g := by omega

set_option maxHeartbeats 800000 in
theorem line_any (p1 p2 p3 p4 s1 s2 x1 x2 d1 d2 m1 m2 r1 r2 : Int) (bad bad1 bad2 bad3 : Bool) (g : Nat) (w : World) (hs : Slot w g 0 (.bool bad)) (b1 : -9223372036854775808 ≤ p1 ∧ p1 ≤ 9223372036854775807)
    (hd : keepQ (subQ x1 x2 p1 p2) = (d1, d2)) (hd' : (bad || !(subQ x1 x2 p1 p2).2.2) = bad1) (hm : keepQ (mulQ s1 s2 d1 d2) = (m1, m2)) (hm' : (bad1 || !(mulQ s1 s2 d1 d2).2.2) = bad2)
    (hr : keepQ (addQ p3 p4 m1 m2) = (r1, r2)) (hr' : (bad2 || !(addQ p3 p4 m1 m2).2.2) = bad3) :
    Calls Try.prog 138 #[.pointer (some ⟨g, 0, none⟩), .agg #[.int .i64 p1, .int .i64 p2, .int .i64 p3, .int .i64 p4], .agg #[.int .i64 s1, .int .i64 s2], .agg #[.int .i64 x1, .int .i64 x2]] w (KeepEnd g r1 r2 bad3 w) := by
  have hg := lt_of_cell hs.1
  have HD := Lib.hid hd
  have HD' := Lib.hid hd'
  have HM := Lib.hid hm
  have HM' := Lib.hid hm'
  have HR := Lib.hid hr
  have HR' := Lib.hid hr'
  have HS := Lib.hid hs
  clear hd hd' hm hm' hr hr' hs
  go_enter Try.func138, Try.ntmps138
  go_wp2_with fail
  go_region_held3 (fun w' => w'.cell? ⟨w.heap.size, 0, none⟩ = some (.int .i64 p1) ∧ w'.cell? ⟨w.heap.size, 1, none⟩ = some (.int .i64 p2) ∧ w'.cell? ⟨w.heap.size, 2, none⟩ = some (.int .i64 p3) ∧ w'.cell? ⟨w.heap.size, 3, none⟩ = some (.int .i64 p4) ∧ w'.cell? ⟨w.heap.size + 1, 0, none⟩ = some (.int .i64 s1) ∧ w'.cell? ⟨w.heap.size + 1, 1, none⟩ = some (.int .i64 s2) ∧ w'.cell? ⟨w.heap.size + 2, 0, none⟩ = some (.int .i64 x1) ∧ w'.cell? ⟨w.heap.size + 2, 1, none⟩ = some (.int .i64 x2))
    ((first | (refine ⟨?_, ?_, ?_, ?_, ?_, ?_, ?_, ?_⟩ <;> (simp [go_sem]; done)) | exact BoxL.keepU (by assumption) k3 hg | exact BoxL.keepU (by assumption) k2 hg | exact BoxL.keepU (by assumption) k1 hg | exact BoxL.store (BoxL.store (by assumption) _ _ _ (Nat.le_refl _)) _ _ _ (Nat.le_refl _)))
    ((first
      | (go_at_call 152; (with_reducible refine (cSub_any x1 x2 p1 p2 d1 d2 bad bad1 g _ (slotD (slotA _ (slotA _ (slotA _ (slotA _ HS.out))))) b1 HD.out HD'.out).mono ?_); rintro e w1 ⟨rfl, g1, k1⟩; have e0 := slotU (b := w.heap.size + 3) (o := 0) (v := .int .i64 0) k1 (new_ne hg 3) ⟨by simp [go_sem], by simp [go_sem]⟩; have e1 := slotU (b := w.heap.size + 3) (o := 1) (v := .int .i64 0) k1 (new_ne hg 3) ⟨by simp [go_sem], by simp [go_sem]⟩; have hB1 := But.trans (But.drew (((((But.refl g w).alloc _).alloc _).alloc _).alloc _)) k1)
      | (go_at_call 157; (with_reducible refine (cMul_any s1 s2 d1 d2 m1 m2 bad1 bad2 g _ g1 HM.out HM'.out).mono ?_); rintro e w2 ⟨rfl, g2, k2⟩; have e2 := slotU k2 (new_ne hg 3) e0; have e3 := slotU k2 (new_ne hg 3) e1; have hB2 := hB1.trans k2)
      | (go_at_call 164; (with_reducible refine (cAdd_any p3 p4 m1 m2 r1 r2 bad2 bad3 g _ g2 HR.out HR'.out).mono ?_); rintro e w3 ⟨rfl, g3, k3⟩; obtain ⟨q0, z0⟩ := slotU k3 (new_ne hg 3) e2; obtain ⟨q1, z1⟩ := slotU k3 (new_ne hg 3) e3; have hB3 := hB2.trans k3)))
  go_wp2_with fail
  refine bodyPost_ret (v := .agg #[.int .i64 r1, .int .i64 r2]) (by simp [results, Try.results138, go_sem, q0, q1]) rfl ⟨rfl, ?_, ?_⟩
  · refine slotS (slotS g3 ?_) ?_ <;> simp <;> omega
  · refine But.setNew (But.setNew hB3 ?_ _) ?_ _ <;> omega

end Go.Proofs.Ytkdhhopfefhdjaa
