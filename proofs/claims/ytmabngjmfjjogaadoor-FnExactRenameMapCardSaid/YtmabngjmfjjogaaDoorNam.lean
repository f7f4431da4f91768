/- Names of maps: isMapName of the program, laName of the reference. -/
import Derived.Test.YtmabngjmfjjogaaDoorPrmI
import Derived.Test.YtmabngjmfjjogaaDoorPrsS
import Derived.Test.YtmabngjmfjjogaaDoorShName
namespace Go.Proofs.YtmabngjmfjjogaaDoor
open Go.RowKit

def az (b : UInt8) : Bool := decide (97 ≤ b.toNat ∧ b.toNat ≤ 122)
def wordsL : List (List UInt8) := [[115, 97, 109, 101], [102, 108, 105, 112], [116, 101, 110, 116], [97, 102, 116, 101, 114], [116, 105, 109, 101, 115], [109, 105, 114, 114, 111, 114], [109, 105, 100, 100, 108, 101], [99, 108, 97, 109, 112]]
def nameB (l : List UInt8) : Bool := decide (1 ≤ l.length ∧ l.length ≤ 8) && (l.all az && !wordsL.contains l)
theorem nameB_len {l : List UInt8} (h : ¬ (1 ≤ l.length ∧ l.length ≤ 8)) : nameB l = false := by unfold nameB; rw [decide_eq_false h]; rfl
theorem nameB_az {l : List UInt8} (h : l.all az = false) : nameB l = false := by unfold nameB; rw [h]; simp
theorem nameB_word {l : List UInt8} (h : wordsL.contains l = true) : nameB l = false := by unfold nameB; rw [h]; simp
theorem nameB_yes {l : List UInt8} (h : 1 ≤ l.length ∧ l.length ≤ 8) (h1 : l.all az = true) (h2 : wordsL.contains l = false) : nameB l = true := by unfold nameB; rw [decide_eq_true h, h1, h2]; rfl

/-- What the program's predicate says of a rune. -/
def badR (x : Nat) : Bool := decide (x < 97) || decide (122 < x)
theorem decode_low (s : ByteArray) (i : Nat) (h : (s.get! i).toNat < 128) : Utf8.decode s i = ((s.get! i).toNat, 1) := by
  unfold Utf8.decode
  simp only [Nat.add_zero]
  rw [if_pos h]
theorem decode_high (s : ByteArray) (i : Nat) (h : 128 ≤ (s.get! i).toNat) : 128 ≤ (Utf8.decode s i).1 := by
  unfold Utf8.decode
  simp only [Nat.add_zero]
  rw [if_neg (by omega)]
  repeat' split
  all_goals first
    | (simp only [ge_iff_le] at *; omega)
    | (rename_i h1; simp only [ge_iff_le, Bool.and_eq_true, decide_eq_true_eq] at h1; omega)
    | (show 128 ≤ Utf8.runeError; decide)
theorem get_at {l : List UInt8} {i : Nat} {x : UInt8} (h : l[i]? = some x) : (⟨l.toArray⟩ : ByteArray).get! i = x := by
  obtain ⟨h1, h2⟩ := List.getElem?_eq_some_iff.1 h
  show l.toArray[i]! = x
  rw [getElem!_pos l.toArray i (by simpa using h1)]
  simpa using h2
theorem badR_az {x : UInt8} : badR x.toNat = !az x := by
  unfold badR az
  by_cases h : 97 ≤ x.toNat ∧ x.toNat ≤ 122
  · rw [decide_eq_true h, decide_eq_false (by omega), decide_eq_false (by omega)]; rfl
  · rw [decide_eq_false h]
    by_cases h1 : x.toNat < 97
    · rw [decide_eq_true h1]; rfl
    · rw [decide_eq_true (show 122 < x.toNat by omega)]; simp
theorem badR_high {x : Nat} (h : 128 ≤ x) : badR x = true := by unfold badR; rw [decide_eq_true (show 122 < x by omega)]; simp
theorem idx_az (l : List UInt8) : ∀ (f pos : Nat), l.length ≤ pos + f → (0 ≤ Lib.idxFuncFrom badR true ⟨l.toArray⟩ f pos ↔ (l.drop pos).all az = false)
  | 0, pos, h => by
    rw [Lib.idxFuncFrom, List.drop_eq_nil_of_le (by omega)]
    simp
  | f + 1, pos, h => by
    have hz := str_size l
    unfold Lib.idxFuncFrom
    by_cases hp : pos < l.length
    · rw [if_pos (by omega)]
      have hx := List.getElem?_eq_getElem hp
      have hg := get_at hx
      rw [List.drop_eq_getElem_cons hp, List.all_cons]
      by_cases hb : (l[pos]).toNat < 128
      · rw [decode_low _ _ (by rw [hg]; exact hb), hg, badR_az]
        cases ha : az l[pos]
        · simp
        · simp only [Bool.not_true, Bool.false_eq_true, if_false, Bool.true_and]
          exact idx_az l f (pos + 1) (by omega)
      · have h1 := decode_high ⟨l.toArray⟩ pos (by rw [hg]; omega)
        rw [if_pos (badR_high h1)]
        have ha : az l[pos] = false := by unfold az; exact decide_eq_false (by omega)
        rw [ha]
        simp
    · rw [if_neg (by omega), List.drop_eq_nil_of_le (by omega)]
      simp
theorem idx_bad (l : List UInt8) : decide (0 ≤ Lib.idxFunc badR true ⟨l.toArray⟩) = !l.all az := by
  have h := idx_az l l.length 0 (by omega)
  unfold Lib.idxFunc
  rw [str_size, List.drop_zero] at *
  cases ha : l.all az
  · rw [decide_eq_true (h.2 ha)]; rfl
  · rw [decide_eq_false (fun hh => by have := h.1 hh; rw [ha] at this; cases this)]; rfl

set_option maxRecDepth 100000 in
theorem badRune_is (x : Nat) (hx : x ≤ 1114111) (w : World) :
    Calls Tryd.prog 128 #[.int .i32 (x : Int)] w fun e w' => e = .returned (.bool (badR x)) ∧ Below w.heap.size w w' := by
  have HB := Lib.hid (show badR x = (decide (x < 97) || decide (122 < x)) from rfl)
  by_cases h : x < 97
  · have b : (x : Int) < 97 := by omega
    have HE := Lib.hid (show badR x = true by rw [HB.out, decide_eq_true h]; rfl)
    go_enter Tryd.func128, Tryd.ntmps128
    go_wp2_with fail
    go_ret
    exact ⟨by rw [HE.out]; rfl, by go_grown⟩
  · have b : ¬ (x : Int) < 97 := by omega
    have b' : decide ((x : Int) < 97) = false := by simpa using b
    have HE := Lib.hid (show badR x = decide ((122 : Int) < x) by rw [HB.out, decide_eq_false h, Bool.false_or, decide_eq_decide]; omega)
    go_enter Tryd.func128, Tryd.ntmps128
    go_wp2_with fail
    go_ret
    exact ⟨by rw [HE.out]; rfl, by go_grown⟩
theorem containsBad_is (l : List UInt8) (w : World) :
    Calls Tryd.prog 127 #[str l, .func (.func 128) #[] #[]] w fun e w' => e = .returned (.bool (!l.all az)) ∧ Below w.heap.size w w' := by
  have h := Tryd.strings_ContainsFunc_grows 128 #[] (enters_of Tryd.func128 (by kernel_rfl) rfl) badR ⟨l.toArray⟩ w (fun W x hx _ => badRune_is x hx W)
  rw [idx_bad] at h
  exact h
theorem words_is (w : World) (hC : CutW w) :
    Calls Tryd.prog 130 #[] w fun e w' => e = .returned (.slice (some ⟨w.heap.size, 0, none⟩) 8 8) ∧ w' = w.alloc (.cells (wordsL.map str).toArray 9) := by
  obtain ⟨m, hm⟩ := hC
  have h := fun W hW => Tryd.strings_Split ⟨#[115, 97, 109, 101, 32, 102, 108, 105, 112, 32, 116, 101, 110, 116, 32, 97, 102, 116, 101, 114, 32, 116, 105, 109, 101, 115, 32, 109, 105, 114, 114, 111, 114, 32, 109, 105, 100, 100, 108, 101, 32, 99, 108, 97, 109, 112]⟩ ⟨#[32]⟩ m W (by decide) hW (by decide)
  have e1 : Lib.countB ⟨#[115, 97, 109, 101, 32, 102, 108, 105, 112, 32, 116, 101, 110, 116, 32, 97, 102, 116, 101, 114, 32, 116, 105, 109, 101, 115, 32, 109, 105, 114, 114, 111, 114, 32, 109, 105, 100, 100, 108, 101, 32, 99, 108, 97, 109, 112]⟩ ⟨#[32]⟩ = 7 := by decide +kernel
  rw [e1] at h
  have e2 : (Lib.splitB ⟨#[32]⟩ 0 7 ⟨#[115, 97, 109, 101, 32, 102, 108, 105, 112, 32, 116, 101, 110, 116, 32, 97, 102, 116, 101, 114, 32, 116, 105, 109, 101, 115, 32, 109, 105, 114, 114, 111, 114, 32, 109, 105, 100, 100, 108, 101, 32, 99, 108, 97, 109, 112]⟩) = wordsL.map fun l => (⟨l.toArray⟩ : ByteArray) := by decide +kernel
  rw [e2, List.map_map] at h
  have HH := Lib.hid h
  clear h e1 e2
  go_enter Tryd.func130, Tryd.ntmps130
  go_wp2_with fail
  refine (HH.out _ hm).mono ?_
  rintro e w1 ⟨rfl, rfl⟩
  go_wp2_with fail
  go_ret
  exact ⟨rfl, rfl⟩
theorem hasWord_is (l : List UInt8) (w : World) (g : Nat) (hc : ∀ i x, wordsL[i]? = some x → w.cell? ⟨g, i, none⟩ = some (str x)) :
    Calls Tryd.prog 129 #[.slice (some ⟨g, 0, none⟩) 8 8, str l] w fun e w' => e = .returned (.bool (wordsL.contains l)) ∧ w' = w := by
  have h := Tryd.slices_Contains_string g 0 8 8 (wordsL.map fun l => (⟨l.toArray⟩ : ByteArray)) ⟨l.toArray⟩ w (by decide) (by decide) (fun j hj => by
    have hj2 : j < wordsL.length := by simpa using hj
    have hx := List.getElem?_eq_getElem hj2
    rw [Nat.zero_add, hc j _ hx, List.getD_eq_getElem?_getD, List.getElem?_map, hx]
    rfl)
  have e : Lib.containsS ((wordsL.map fun l => (⟨l.toArray⟩ : ByteArray)).take 8) ⟨l.toArray⟩ = wordsL.contains l := by
    rw [List.take_of_length_le (by decide), Bool.eq_iff_iff, Lib.containsS_iff, List.mem_map, List.contains_iff_mem]
    constructor
    · rintro ⟨a, ha, he⟩
      have : a = l := by
        injection he with he
        have := congrArg Array.toList he
        simpa using this
      rw [← this]; exact ha
    · intro ha; exact ⟨l, ha, rfl⟩
  rw [e] at h
  exact h

set_option maxRecDepth 100000 in
set_option maxHeartbeats 1600000 in
theorem isMapName_is (l : List UInt8) (t : Bool) (ht : nameB l = t) (w : World) (hC : CutW w) (hl : l.length ≤ 9223372036854775807) :
    Calls Tryd.prog 82 #[str l] w fun e w' => e = .returned (.bool t) ∧ Below w.heap.size w w' := by
  have fl : ∀ W, (Builtin.len_ #[9] 3 #[str l]).run Tryd.prog W = .ok (.int .i64 l.length) W := fun W => str_len _ _ l W (by kernel_rfl)
  by_cases h1 : 1 ≤ l.length ∧ l.length ≤ 8
  · rcases h2 : l.all az with _ | _
    · obtain rfl : false = t := by rw [← ht]; exact (nameB_az h2).symm
      have H2 := Lib.hid h2
      clear h2 ht
      go_enter Tryd.func82, Tryd.ntmps82
      go_wp2_with fail
      refine (within_yes _ _ _ (by omega) (by omega) _).mono ?_
      rintro e w1 ⟨rfl, rfl⟩
      go_wp2_with fail
      refine (containsBad_is l _).mono ?_
      rintro e w2 ⟨he, hb⟩
      rw [H2.out] at he
      subst he
      have hB : Below w.heap.size w w2 := nextX (by go_grown) hb
      clear hb
      go_wp2_with fail
      go_ret
      exact ⟨rfl, hB⟩
    · have H2 := Lib.hid h2
      obtain ⟨b, hb⟩ : ∃ b, wordsL.contains l = b := ⟨_, rfl⟩
      have HB := Lib.hid hb
      obtain rfl : (!b) = t := by
        rw [← ht]
        cases b
        · exact (nameB_yes h1 h2 hb).symm
        · exact (nameB_word hb).symm
      clear h2 ht hb
      go_enter Tryd.func82, Tryd.ntmps82
      go_wp2_with fail
      refine (within_yes _ _ _ (by omega) (by omega) _).mono ?_
      rintro e w1 ⟨rfl, rfl⟩
      go_wp2_with fail
      refine (containsBad_is l _).mono ?_
      rintro e w2 ⟨he, hb⟩
      rw [H2.out] at he
      subst he
      have hB : Below w.heap.size w w2 := nextX (by go_grown) hb
      clear hb
      go_wp2_with fail
      refine (words_is _ (hC.keep (nextX hB (by go_grown)))).mono ?_
      rintro e w3 ⟨rfl, h3⟩
      have hX : Below w2.heap.size w2 w3 := by rw [h3]; go_grown
      have hcc : ∀ i x, wordsL[i]? = some x → w3.cell? ⟨w2.heap.size, i, none⟩ = some (str x) := fun i x hx => by
        rw [h3, World.cell?_alloc_new]
        simp [hx]
      have hB2 : Below w.heap.size w w3 := nextW hB hX
      clear h3 hX
      go_wp2_with fail
      refine (hasWord_is l _ _ (fun i x hx => hcc i x hx)).mono ?_
      rintro e w4 ⟨he, rfl⟩
      rw [HB.out] at he
      subst he
      go_wp2_with fail
      go_ret
      exact ⟨rfl, hB2⟩
  · obtain rfl : false = t := by rw [← ht]; exact (nameB_len h1).symm
    have h2 : ¬ ((1 : Int) ≤ l.length ∧ (l.length : Int) ≤ 8) := by omega
    clear ht
    go_enter Tryd.func82, Tryd.ntmps82
    go_wp2_with fail
    refine (within_no _ _ _ h2 _).mono ?_
    rintro e w1 ⟨rfl, rfl⟩
    go_wp2_with fail
    go_ret
    exact ⟨rfl, by go_grown⟩

theorem laWords_is (w : World) :
    Calls Tryd.prog 148 #[] w fun e w' => e = .returned (.slice (some ⟨w.heap.size, 0, none⟩) 8 8) ∧ Below w.heap.size w w' ∧ ∀ i x, wordsL[i]? = some x → w'.cell? ⟨w.heap.size, i, none⟩ = some (str x) := by
  go_enter Tryd.func148, Tryd.ntmps148
  go_wp2_with fail
  go_ret
  refine ⟨rfl, by go_grown, fun i x hx => ?_⟩
  have hi : i < 8 := (List.getElem?_eq_some_iff.1 hx).1
  match i, hi with
  | 0, _ => simp [wordsL] at hx; subst hx; simp [go_sem, str]
  | 1, _ => simp [wordsL] at hx; subst hx; simp [go_sem, str]
  | 2, _ => simp [wordsL] at hx; subst hx; simp [go_sem, str]
  | 3, _ => simp [wordsL] at hx; subst hx; simp [go_sem, str]
  | 4, _ => simp [wordsL] at hx; subst hx; simp [go_sem, str]
  | 5, _ => simp [wordsL] at hx; subst hx; simp [go_sem, str]
  | 6, _ => simp [wordsL] at hx; subst hx; simp [go_sem, str]
  | 7, _ => simp [wordsL] at hx; subst hx; simp [go_sem, str]

theorem eql_str (W : World) (x y : List UInt8) : (binOp .eql 9 (str x) (str y)).run Tryd.prog W = .ok (.bool (decide (x = y))) W := by
  unfold str
  go_simp
  by_cases h : x = y
  · subst h; simp
  · simp [h]
def RelNw (l : List UInt8) (w : World) (i : Value) (wr : World) : Prop := ∃ k : Nat, k ≤ 8 ∧ i = .int .i64 k ∧ (∀ j, j < k → wordsL[j]? ≠ some l) ∧ Below w.heap.size w wr
def RelNb (l : List UInt8) (w : World) (i : Value) (wr : World) : Prop := ∃ k : Nat, k ≤ l.length ∧ i = .int .i64 k ∧ (l.take k).all az = true ∧ Below w.heap.size w wr
theorem all_next {l : List UInt8} {k : Nat} {x : UInt8} (h : l[k]? = some x) : (l.take (k + 1)).all az = ((l.take k).all az && az x) := by
  rw [List.take_add_one, h, List.all_append]; simp
theorem all_cut {l : List UInt8} {k : Nat} {x : UInt8} (h : l[k]? = some x) (hx : az x = false) : l.all az = false := by
  rw [List.all_eq_false]
  exact ⟨x, List.mem_of_getElem? h, by rw [hx]; simp⟩
set_option maxRecDepth 100000 in
set_option maxHeartbeats 1600000 in
theorem laName_is (l : List UInt8) (t : Bool) (ht : nameB l = t) (w : World) (hl : l.length ≤ 9223372036854775807) :
    Calls Tryd.prog 120 #[str l] w fun e w' => e = .returned (.bool t) ∧ Below w.heap.size w w' := by
  have fl : ∀ W, (Builtin.len_ #[9] 3 #[str l]).run Tryd.prog W = .ok (.int .i64 l.length) W := fun W => str_len _ _ l W (by kernel_rfl)
  have HT := Lib.hid ht
  clear ht
  go_enter Tryd.func120, Tryd.ntmps120
  go_wp2_with fail
  refine (laWords_is _).mono ?_
  rintro e w1 ⟨rfl, hb, hcell⟩
  have hB : Below w.heap.size w w1 := nextX (by go_grown) hb
  have HC := Lib.hid hcell
  clear hb hcell
  go_wp2_with fail
  go_loopw [8] (fun i wr => RelNw l w1 i wr) (fun i _ => 8 - (intOf i).toNat)
  case atStart => exact ⟨0, Nat.zero_le _, rfl, fun j hj => absurd hj (Nat.not_lt_zero _), by go_grown⟩
  case round =>
    obtain ⟨k, hk, rfl, hno, hb⟩ := hrel
    have HN := Lib.hid hno
    clear hno
    by_cases hlt : k < 8
    · obtain ⟨x, hx⟩ : ∃ x, wordsL[k]? = some x := ⟨_, List.getElem?_eq_getElem (show k < wordsL.length from hlt)⟩
      have c0 := cellB hb (HC.out k x hx)
      have HX := Lib.hid hx
      have b0 : (k : Int) < 8 := by omega
      have v1 : IntKind.i64.wrap ((k : Int) + 1) = (k : Int) + 1 := IntWalk.i64_in _ (by omega)
      have hq : ∀ W, (binOp .eql 9 (str l) (str x)).run Tryd.prog W = .ok (.bool (decide (l = x))) W := fun W => eql_str W l x
      have hg : ∀ (W : World) (a b : Operand), (eqGuard .eql 9 a b (str l) (str x)).run Tryd.prog W = .ok () W := fun W a b => by unfold str; go_simp
      clear hx
      by_cases he : l = x
      · have hd : decide (l = x) = true := by simpa using he
        obtain rfl : false = t := by
          rw [← HT.out]
          refine (nameB_word ?_).symm
          rw [List.contains_iff_mem, he]
          exact List.mem_of_getElem? HX.out
        clear he
        go_wp2_with fail
        go_ret
        exact ⟨rfl, nextW hB (by go_grown)⟩
      · have hd : decide (l = x) = false := by simpa using he
        have HE := Lib.hid he
        clear he
        go_wp2_with fail
        go_roundw
        case rel =>
          refine ⟨k + 1, by omega, by go_num, fun j hj => ?_, by go_grown⟩
          rcases Nat.lt_or_ge j k with h | h
          · exact HN.out j h
          · obtain rfl : j = k := by omega
            rw [HX.out]
            exact fun h => HE.out (Option.some.inj h).symm
        case measure => simp [intOf] <;> omega
    · obtain rfl : k = 8 := by omega
      have HW := Lib.hid (show wordsL.contains l = false by
        rw [Bool.eq_false_iff]
        intro h
        rw [List.contains_iff_mem] at h
        obtain ⟨j, hj⟩ := List.getElem?_of_mem h
        exact HN.out j (List.getElem?_eq_some_iff.1 hj).1 hj)
      clear HN HC
      go_wp2_with fail
      go_loopw [5] (fun i wr => RelNb l w1 i wr) (fun i _ => l.length - (intOf i).toNat)
      case atStart => exact ⟨0, Nat.zero_le _, rfl, rfl, by go_grown⟩
      case round =>
        obtain ⟨k, hk, rfl, hal, hb2⟩ := hrel
        have HA := Lib.hid hal
        clear hal hb
        by_cases hlt : k < l.length
        · obtain ⟨x, hx⟩ : ∃ x, l[k]? = some x := ⟨_, List.getElem?_eq_getElem hlt⟩
          have fa : ∀ W, (Instr.index 9 (str l) (.int .i64 k)).run Tryd.prog W = .ok (.int .u8 x.toNat) W := fun W => str_at l k x W hx
          have HX := Lib.hid hx
          have v1 : IntKind.i64.wrap ((k : Int) + 1) = (k : Int) + 1 := IntWalk.i64_in _ (by omega)
          clear hx
          by_cases c1 : (x.toNat : Int) < 97
          · obtain rfl : false = t := by rw [← HT.out]; exact (nameB_az (all_cut HX.out (by unfold az; exact decide_eq_false (by omega)))).symm
            go_wp2_with fail
            go_ret
            exact ⟨rfl, nextW hB (by go_grown)⟩
          · have c1' : decide ((x.toNat : Int) < 97) = false := by simpa using c1
            by_cases c2 : 122 < (x.toNat : Int)
            · obtain rfl : false = t := by rw [← HT.out]; exact (nameB_az (all_cut HX.out (by unfold az; exact decide_eq_false (by omega)))).symm
              go_wp2_with fail
              go_ret
              exact ⟨rfl, nextW hB (by go_grown)⟩
            · have c2' : decide (122 < (x.toNat : Int)) = false := by simpa using c2
              have HZ := Lib.hid (show az x = true by unfold az; exact decide_eq_true (by omega))
              go_wp2_with fail
              go_roundw
              case rel => exact ⟨k + 1, by omega, by go_num, by rw [all_next HX.out, HA.out, HZ.out]; rfl, by go_grown⟩
              case measure => simp [intOf] <;> omega
        · obtain rfl : k = l.length := by omega
          have h2 : l.all az = true := by have := HA.out; rwa [List.take_length] at this
          by_cases h1 : 1 ≤ l.length ∧ l.length ≤ 8
          · obtain rfl : true = t := by rw [← HT.out]; exact (nameB_yes h1 h2 HW.out).symm
            clear h2
            go_wp2_with fail
            refine (l1In_yes _ _ _ (by omega) (by omega) _).mono ?_
            rintro e w2 ⟨rfl, rfl⟩
            go_wp2_with fail
            go_ret
            exact ⟨rfl, nextW hB (by go_grown)⟩
          · obtain rfl : false = t := by rw [← HT.out]; exact (nameB_len h1).symm
            have h3 : ¬ ((1 : Int) ≤ l.length ∧ (l.length : Int) ≤ 8) := by omega
            clear h2
            go_wp2_with fail
            refine (l1In_no _ _ _ h3 _).mono ?_
            rintro e w2 ⟨rfl, rfl⟩
            go_wp2_with fail
            go_ret
            exact ⟨rfl, nextW hB (by go_grown)⟩

end Go.Proofs.YtmabngjmfjjogaaDoor
