/- The order of names; environments are sorted; where a name is: namedAt of the program, laFind of the reference. -/
import Derived.Test.YtmabngjmfjjogaaDoorEnvT
import Derived.Test.YtmabngjmfjjogaaDoorShCmp
namespace Go.Proofs.YtmabngjmfjjogaaDoor
open Go.RowKit

theorem cmpB_cases : ∀ a b : List UInt8, (Lib.compareBytes a b = -1 ∧ a < b) ∨ (Lib.compareBytes a b = 0 ∧ a = b) ∨ (Lib.compareBytes a b = 1 ∧ b < a)
  | [], [] => .inr (.inl ⟨rfl, rfl⟩)
  | [], b :: bs => .inl ⟨rfl, List.nil_lt_cons _ _⟩
  | a :: r, [] => .inr (.inr ⟨rfl, List.nil_lt_cons _ _⟩)
  | a :: r, b :: bs => by
    unfold Lib.compareBytes
    by_cases h : a < b
    · rw [if_pos h]; exact .inl ⟨rfl, List.cons_lt_cons_iff.2 (.inl h)⟩
    · rw [if_neg h]
      by_cases h2 : b < a
      · rw [if_pos h2]; exact .inr (.inr ⟨rfl, List.cons_lt_cons_iff.2 (.inl h2)⟩)
      · rw [if_neg h2]
        obtain rfl : a = b := by
          apply UInt8.toNat_inj.1
          have h3 : ¬ a.toNat < b.toNat := fun hh => h (UInt8.lt_iff_toNat_lt.2 hh)
          have h4 : ¬ b.toNat < a.toNat := fun hh => h2 (UInt8.lt_iff_toNat_lt.2 hh)
          omega
        rcases cmpB_cases r bs with ⟨h5, h6⟩ | ⟨h5, h6⟩ | ⟨h5, h6⟩
        · exact .inl ⟨h5, List.cons_lt_cons_iff.2 (.inr ⟨rfl, h6⟩)⟩
        · exact .inr (.inl ⟨h5, by rw [h6]⟩)
        · exact .inr (.inr ⟨h5, List.cons_lt_cons_iff.2 (.inr ⟨rfl, h6⟩)⟩)
/-- a is before b. -/
def ltS (a b : List UInt8) : Prop := a < b
theorem ltS_irr (a : List UInt8) : ¬ ltS a a := List.lt_irrefl a
theorem ltS_trans {a b c : List UInt8} (h : ltS a b) (k : ltS b c) : ltS a c := by
  have key : ∀ a b c : List UInt8, a < b → b < c → a < c := by
    intro a
    induction a with
    | nil =>
      intro b c h k
      cases c with
      | nil => exact absurd k (List.not_lt_nil _)
      | cons x xs => exact List.nil_lt_cons _ _
    | cons x xs ih =>
      intro b c h k
      cases b with
      | nil => exact absurd h (List.not_lt_nil _)
      | cons y ys =>
        cases c with
        | nil => exact absurd k (List.not_lt_nil _)
        | cons z zs =>
          rw [List.cons_lt_cons_iff] at h k ⊢
          rcases h with h | ⟨rfl, h⟩
          · rcases k with k | ⟨rfl, k⟩
            · exact .inl (UInt8.lt_trans h k)
            · exact .inl h
          · rcases k with k | ⟨rfl, k⟩
            · exact .inl k
            · exact .inr ⟨rfl, ih _ _ h k⟩
  exact key a b c h k
theorem cmpB_neg {a b : List UInt8} : Lib.compareBytes a b < 0 ↔ ltS a b := by
  rcases cmpB_cases a b with ⟨h1, h2⟩ | ⟨h1, h2⟩ | ⟨h1, h2⟩
  · exact ⟨fun _ => h2, fun _ => by omega⟩
  · exact ⟨fun h => by omega, fun h => by rw [h2] at h; exact absurd h (ltS_irr _)⟩
  · exact ⟨fun h => by omega, fun h => absurd (ltS_trans h h2) (ltS_irr _)⟩
theorem cmpB_zero {a b : List UInt8} : Lib.compareBytes a b = 0 ↔ a = b := by
  rcases cmpB_cases a b with ⟨h1, h2⟩ | ⟨h1, h2⟩ | ⟨h1, h2⟩
  · exact ⟨fun h => by omega, fun h => by rw [h] at h2; exact absurd h2 (ltS_irr _)⟩
  · exact ⟨fun _ => h2, fun _ => h1⟩
  · exact ⟨fun h => by omega, fun h => by rw [h] at h2; exact absurd h2 (ltS_irr _)⟩
theorem ltS_tri {a b : List UInt8} (h1 : ¬ ltS a b) (h2 : a ≠ b) : ltS b a := by
  rcases cmpB_cases a b with ⟨-, h⟩ | ⟨-, h⟩ | ⟨-, h⟩
  · exact absurd h h1
  · exact absurd h h2
  · exact h
theorem geS_no {a b : List UInt8} : geS a b = false ↔ ltS a b := by unfold geS ltS; simp

/-- The names rise. -/
def SrtE (ns : List Nm) : Prop := ∀ (i j : Nat) (a b : Nm), i < j → ns[i]? = some a → ns[j]? = some b → ltS a.1 b.1
theorem env_srt {ns : List Nm} (h : envB ns = true) : SrtE ns := by
  have adj : ∀ (i : Nat) (a b : Nm), ns[i]? = some a → ns[i + 1]? = some b → ltS a.1 b.1 := by
    intro i a b ha hb
    unfold envB at h
    simp only [Bool.and_eq_true, List.all_eq_true] at h
    have h1 := h.1 (i + 1) (List.mem_range.2 (List.getElem?_eq_some_iff.1 hb).1)
    rw [okE_succ hb ha] at h1
    simp only [Bool.and_eq_true, Bool.not_eq_true'] at h1
    exact geS_no.1 h1.2.2
  intro i j a b hij
  induction j generalizing b with
  | zero => omega
  | succ j ih =>
    intro ha hb
    have hj : j < ns.length := by have := (List.getElem?_eq_some_iff.1 hb).1; omega
    have hc := List.getElem?_eq_getElem hj
    rcases Nat.lt_or_ge i j with h1 | h1
    · exact ltS_trans (ih _ h1 ha hc) (adj j _ b hc hb)
    · obtain rfl : i = j := by omega
      exact adj i a b ha hb
theorem srt_one {ns : List Nm} (h : SrtE ns) {i j : Nat} {a b : Nm} (ha : ns[i]? = some a) (hb : ns[j]? = some b) (he : a.1 = b.1) : i = j := by
  rcases Nat.lt_trichotomy i j with h1 | h1 | h1
  · have := h i j a b h1 ha hb; rw [he] at this; exact absurd this (ltS_irr _)
  · exact h1
  · have := h j i b a h1 hb ha; rw [he] at this; exact absurd this (ltS_irr _)

/-- What namedAt gives of a name. -/
def AtQ (ns : List Nm) (name : List UInt8) (i : Nat) (b : Bool) : Prop :=
  i ≤ ns.length ∧ (b = true → ∃ n, ns[i]? = some n ∧ n.1 = name) ∧ (SrtE ns → (b = false → ∀ n ∈ ns, n.1 ≠ name) ∧ (∀ j m, j < i → ns[j]? = some m → ltS m.1 name) ∧ (∀ j m, i ≤ j → ns[j]? = some m → ¬ ltS m.1 name))

set_option maxRecDepth 100000 in
theorem cmpNamed_is (l name : List UInt8) (mv : Value) (A : Option Addr) (n c : Nat) (hm : mv = .slice A n c) (w : World) :
    Calls Tryd.prog 125 #[.agg #[str l, mv], str name] w fun e w' => e = .returned (.int .i64 (Lib.compareBytes l name)) ∧ Below w.heap.size w w' := by
  subst hm
  unfold str
  go_enter Tryd.func125, Tryd.ntmps125
  go_wp2_with fail
  refine (Tryd.strings_Compare ⟨l.toArray⟩ ⟨name.toArray⟩ _).mono ?_
  rintro e w1 ⟨rfl, rfl⟩
  go_wp2_with fail
  go_ret
  exact ⟨rfl, by go_grown⟩
def RelBs (ns : List Nm) (name : List UInt8) (w : World) (a b : Value) (wr : World) : Prop :=
  ∃ lo hi : Nat, a = .int .i64 lo ∧ b = .int .i64 hi ∧ lo ≤ hi ∧ hi ≤ ns.length ∧ (SrtE ns → (∀ j m, j < lo → ns[j]? = some m → ltS m.1 name) ∧ (∀ j m, hi ≤ j → ns[j]? = some m → ¬ ltS m.1 name)) ∧ Below w.heap.size w wr
set_option maxRecDepth 100000 in
set_option maxHeartbeats 3200000 in
theorem search_is (ns : List Nm) (v : Value) (name : List UInt8) (w : World) (hv : RdE w v ns) (hn : ns.length ≤ 1048576) :
    Calls Tryd.prog 124 #[v, str name, .func (.func 125) #[] #[]] w fun e w' => ∃ (i : Nat) (b : Bool), e = .returned (.tuple #[.int .i64 i, .bool b]) ∧ AtQ ns name i b ∧ Below w.heap.size w w' := by
  obtain ⟨A, c, rfl, hl, hmx, hcell⟩ := hv
  unfold maxLen at hmx
  have HC := Lib.hid hcell
  clear hcell
  go_enter Tryd.func124, Tryd.ntmps124
  go_wp2_with fail
  go_loopw [9, 10] (fun a b wr => RelBs ns name w a b wr) (fun a b _ => (intOf b).toNat - (intOf a).toNat)
  case atStart => exact ⟨0, ns.length, rfl, rfl, Nat.zero_le _, Nat.le_refl _, fun _ => ⟨fun j m hj => absurd hj (Nat.not_lt_zero _), fun j m hj hm => by have := (List.getElem?_eq_some_iff.1 hm).1; omega⟩, by go_grown⟩
  case round =>
    obtain ⟨lo, hi, rfl, rfl, hlh, hhn, hinv, hb⟩ := hrel
    have HI := Lib.hid hinv
    clear hinv
    by_cases hlt : lo < hi
    · obtain ⟨g, o, rfl, hg, hcc⟩ := HC.out (by rintro rfl; simp at hhn; omega)
      have hmid : (lo + hi) / 2 < ns.length := by omega
      have hx := List.getElem?_eq_getElem hmid
      generalize ns[(lo + hi) / 2] = n at *
      obtain ⟨c0, mv, c1, hp⟩ := hcc _ n hx
      obtain ⟨A1, k1, rfl, -, -, -⟩ := hp
      have HX := Lib.hid hx
      replace c0 := cellB hb c0
      replace c1 := cellB hb c1
      unfold str at c0
      clear hcc hx
      go_wp2_with fail
      refine (cmpNamed_is n.1 name _ A1 _ k1 rfl _).mono ?_
      rintro e w1 ⟨rfl, h1⟩
      have hX : Below wr.heap.size wr w1 := nextX (by go_grown) h1
      replace hb := nextW hb hX
      clear h1 hX c0 c1
      by_cases hc : Lib.compareBytes n.1 name < 0
      · have hc' : decide (Lib.compareBytes n.1 name < 0) = true := by simpa using hc
        have HL := Lib.hid (cmpB_neg.1 hc)
        go_wp2_with fail
        go_roundw
        case rel =>
          refine ⟨(lo + hi) / 2 + 1, hi, by go_num, rfl, by omega, hhn, fun hs => ⟨fun j m hj hm => ?_, (HI.out hs).2⟩, hb⟩
          rcases Nat.lt_or_ge j ((lo + hi) / 2) with h | h
          · exact ltS_trans (hs j _ m n h hm HX.out) HL.out
          · obtain rfl : j = (lo + hi) / 2 := by omega
            rw [HX.out] at hm
            cases hm
            exact HL.out
        case measure => simp [intOf]; omega
      · have hc' : decide (Lib.compareBytes n.1 name < 0) = false := by simpa using hc
        have HL := Lib.hid (fun h => hc (cmpB_neg.2 h) : ¬ ltS n.1 name)
        go_wp2_with fail
        go_roundw
        case rel =>
          refine ⟨lo, (lo + hi) / 2, rfl, by go_num, by omega, by omega, fun hs => ⟨(HI.out hs).1, fun j m hj hm hh => ?_⟩, hb⟩
          rcases Nat.lt_or_ge ((lo + hi) / 2) j with h | h
          · exact HL.out (ltS_trans (hs _ j n m h HX.out hm) hh)
          · obtain rfl : j = (lo + hi) / 2 := by omega
            rw [HX.out] at hm
            cases hm
            exact HL.out hh
        case measure => simp [intOf]; omega
    · obtain rfl : lo = hi := by omega
      by_cases hin : lo < ns.length
      · obtain ⟨g, o, rfl, hg, hcc⟩ := HC.out (by rintro rfl; simp at hin)
        have hx := List.getElem?_eq_getElem hin
        generalize ns[lo] = n at *
        obtain ⟨c0, mv, c1, hp⟩ := hcc _ n hx
        obtain ⟨A1, k1, rfl, -, -, -⟩ := hp
        have HX := Lib.hid hx
        replace c0 := cellB hb c0
        replace c1 := cellB hb c1
        unfold str at c0
        have b0 : (lo : Int) < (ns.length : Int) := by omega
        have b1 : decide ((lo : Int) < (ns.length : Int)) = true := by simpa using b0
        have b2 : decide (lo < ns.length) = true := by simpa using hin
        clear hcc hx
        go_wp2_with fail
        refine (cmpNamed_is n.1 name _ A1 _ k1 rfl _).mono ?_
        rintro e w1 ⟨rfl, h1⟩
        have hX : Below wr.heap.size wr w1 := nextX (by go_grown) h1
        replace hb := nextW hb hX
        clear h1 hX c0 c1
        have HE := Lib.hid (show (Lib.compareBytes n.1 name == 0) = decide (n.1 = name) by
          rw [Bool.eq_iff_iff, beq_iff_eq, decide_eq_true_eq]; exact cmpB_zero)
        go_wp2_with fail
        go_ret2
        refine ⟨lo, decide (n.1 = name), by rw [HE.out]; rfl, ⟨by omega, fun h => ⟨n, HX.out, by simpa using h⟩, fun hs => ⟨fun h m hm he => ?_, (HI.out hs).1, (HI.out hs).2⟩⟩, hb⟩
        obtain ⟨j, hj⟩ := List.getElem?_of_mem hm
        rcases Nat.lt_or_ge j lo with h2 | h2
        · have := (HI.out hs).1 j m h2 hj; rw [he] at this; exact ltS_irr _ this
        · rcases Nat.lt_or_ge lo j with h3 | h3
          · have h4 := hs lo j n m h3 HX.out hj
            rw [he] at h4
            exact (HI.out hs).2 lo n (Nat.le_refl _) HX.out h4
          · obtain rfl : j = lo := by omega
            rw [HX.out] at hj
            cases hj
            exact (of_decide_eq_false h) he
      · have b0 : ¬ (lo : Int) < (ns.length : Int) := by omega
        have b1 : decide ((lo : Int) < (ns.length : Int)) = false := by simpa using b0
        have b2 : decide (lo < ns.length) = false := by simpa using hin
        have HG := Lib.hid (show AtQ ns name lo false from ⟨by omega, fun h => (by cases h), fun hs => ⟨fun _ m hm he => by
          obtain ⟨j, hj⟩ := List.getElem?_of_mem hm
          have hjl := (List.getElem?_eq_some_iff.1 hj).1
          have := (HI.out hs).1 j m (by omega) hj
          rw [he] at this
          exact ltS_irr _ this, (HI.out hs).1, (HI.out hs).2⟩⟩)
        go_wp2_with fail
        go_ret2
        first
          | exact ⟨lo, false, rfl, HG.out, hb⟩
          | exact ⟨lo, rfl, HG.out, hb⟩
          | exact ⟨lo, .inl ⟨rfl, HG.out, hb⟩⟩
          | exact ⟨lo, .inr ⟨rfl, HG.out, hb⟩⟩
set_option maxHeartbeats 800000 in
theorem namedAt_is (ns : List Nm) (v : Value) (name : List UInt8) (w : World) (hv : RdE w v ns) (hn : ns.length ≤ 1048576) :
    Calls Tryd.prog 81 #[v, str name] w fun e w' => ∃ (i : Nat) (b : Bool), e = .returned (.tuple #[.int .i64 i, .bool b]) ∧ AtQ ns name i b ∧ Below w.heap.size w w' := by
  have HV := Lib.hid hv
  clear hv
  go_enter Tryd.func81, Tryd.ntmps81
  go_wp2_with fail
  refine (search_is ns v name _ (HV.out.keep (by go_grown)) hn).mono ?_
  rintro e w1 ⟨i, b, rfl, hq, h1⟩
  have hB : Below w.heap.size w w1 := nextX (by go_grown) h1
  have HQ := Lib.hid hq
  clear h1 hq
  go_wp2_with fail
  go_ret2
  exact ⟨i, b, rfl, HQ.out, hB⟩

/-- What laFind gives. -/
def FindQ (ns : List Nm) (name : List UInt8) (x : Int) : Prop := (x = -1 ∧ ∀ n ∈ ns, n.1 ≠ name) ∨ ∃ (i : Nat) (n : Nm), x = i ∧ ns[i]? = some n ∧ n.1 = name ∧ ∀ j m, j < i → ns[j]? = some m → m.1 ≠ name
def RelFd (ns : List Nm) (name : List UInt8) (w : World) (i : Value) (wr : World) : Prop := ∃ k : Nat, k ≤ ns.length ∧ i = .int .i64 k ∧ (∀ j m, j < k → ns[j]? = some m → m.1 ≠ name) ∧ Below w.heap.size w wr
set_option maxRecDepth 100000 in
set_option maxHeartbeats 1600000 in
theorem laFind_is (ns : List Nm) (v : Value) (name : List UInt8) (w : World) (hv : RdE w v ns) (hn : ns.length ≤ 1048576) :
    Calls Tryd.prog 75 #[v, str name] w fun e w' => ∃ x : Int, e = .returned (.int .i64 x) ∧ FindQ ns name x ∧ Below w.heap.size w w' := by
  obtain ⟨A, c, rfl, hl, hmx, hcell⟩ := hv
  unfold maxLen at hmx
  have HC := Lib.hid hcell
  clear hcell
  go_enter Tryd.func75, Tryd.ntmps75
  go_wp2_with fail
  go_loopw [9] (fun i wr => RelFd ns name w i wr) (fun i _ => ns.length - (intOf i).toNat)
  case atStart => exact ⟨0, Nat.zero_le _, rfl, fun j m hj => absurd hj (Nat.not_lt_zero _), by go_grown⟩
  case round =>
    obtain ⟨k, hk, rfl, hno, hb⟩ := hrel
    have HN := Lib.hid hno
    have hzr := hb.size
    clear hno
    by_cases hlt : k < ns.length
    · obtain ⟨g, o, rfl, hg, hcc⟩ := HC.out (by rintro rfl; simp at hlt)
      have hx := List.getElem?_eq_getElem hlt
      generalize ns[k] = n at *
      obtain ⟨c0, mv, c1, hp⟩ := hcc k n hx
      obtain ⟨A1, k1, rfl, -, -, -⟩ := hp
      have HX := Lib.hid hx
      replace c0 := cellB hb c0
      replace c1 := cellB hb c1
      unfold str at c0
      have b0 : (0 : Int) ≤ (k : Int) := by omega
      have b1 : (k : Int) < (ns.length : Int) := by omega
      have v1 : IntKind.i64.wrap ((k : Int) + 1) = (k : Int) + 1 := IntWalk.i64_in _ (by omega)
      have hq : ∀ W, (binOp .eql 9 (.string ⟨n.1.toArray⟩) (str name)).run Tryd.prog W = .ok (.bool (decide (n.1 = name))) W := fun W => eql_str W n.1 name
      have hgd : ∀ (W : World) (a b : Operand), (eqGuard .eql 9 a b (.string ⟨n.1.toArray⟩) (str name)).run Tryd.prog W = .ok () W := fun W a b => by unfold str; go_simp
      clear hcc hx
      by_cases he : n.1 = name
      · have hd : decide (n.1 = name) = true := by simpa using he
        have HE := Lib.hid he
        clear he
        go_wp2_with fail
        go_ret
        exact ⟨k, rfl, .inr ⟨k, n, rfl, HX.out, HE.out, HN.out⟩, by go_grown⟩
      · have hd : decide (n.1 = name) = false := by simpa using he
        have HE := Lib.hid he
        clear he
        go_wp2_with fail
        go_roundw
        case rel =>
          refine ⟨k + 1, by omega, by go_num, fun j m hj hm => ?_, by go_grown⟩
          rcases Nat.lt_or_ge j k with h | h
          · exact HN.out j m h hm
          · obtain rfl : j = k := by omega
            rw [HX.out] at hm
            cases hm
            exact HE.out
        case measure => simp [intOf] <;> omega
    · obtain rfl : k = ns.length := by omega
      go_wp2_with fail
      go_ret
      refine ⟨-1, rfl, .inl ⟨rfl, fun n hn => ?_⟩, by go_grown⟩
      obtain ⟨j, hj⟩ := List.getElem?_of_mem hn
      exact HN.out j n (List.getElem?_eq_some_iff.1 hj).1 hj

end Go.Proofs.YtmabngjmfjjogaaDoor
