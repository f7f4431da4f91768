/- l1Split and raRead of the reference. -/
import Derived.Test.YtkeajfgcjmhmiaaGreatDoorM27
import Derived.Test.YtkeajfgcjmhmiaaGreatDoorM7
namespace Go.Proofs.YtkeajfgcjmhmiaaGreatDoor
open Go.RowKit

/-- A row of texts of the call's own. -/
def OwS (base : Nat) (w : World) (v : Value) (ls : List (List UInt8)) : Prop := w.ownsRow base 9 1 v ls.length (ls.map str)
theorem OwS.keep {base : Nat} {w w' : World} {v : Value} {ls : List (List UInt8)} (h : OwS base w v ls) (hb : Below w.heap.size w w') : OwS base w' v ls := ownsRow_keep h hb
theorem Tryz.infoS : (Tryz.prog.info? 9).map (fun i => (i.zero, i.size, i.bytes)) = some (some (.string ByteArray.empty), 1, 16) := by kernel_rfl
theorem append_s1 {ops : Array Oper} {rest : List Oper} {o : Oper} {a : Act} {K : Exit → Act → World → Prop} (w : World) (hgd : o.guard = none) (s x : Operand)
    (ho : o.op = .call { callee := .builtin .append, args := #[s, x], argTypes := #[91, 91] })
    (base : Nat) (v : Value) (ls : List (List UInt8)) (hs : a.eval s = v) (hown : OwS base w v ls)
    (g c : Nat) (l : List UInt8) (hx : a.eval x = .slice (some ⟨g, 0, none⟩) 1 c) (c0 : w.cell? ⟨g, 0, none⟩ = some (str l))
    (hlen : ls.length ≤ 1048576) (hbase : base ≤ w.heap.size)
    (h : ∀ v' w', OwS base w' v' (ls ++ [l]) → Below base w w' → wpList Tryz.prog ops K rest (a.put o.dst v') w') : wpList Tryz.prog ops K (o :: rest) a w := by
  obtain ⟨i, hi, hz, hsz, hb⟩ := info_parts Tryz.infoS
  have hcell : ∀ j u, ([str l] : List Value)[j]? = some u → w.cell? ((⟨g, 0, none⟩ : Addr).add j) = some u := by
    intro j u hj
    have hadd : (⟨g, 0, none⟩ : Addr).add j = ⟨g, j, none⟩ := by unfold Addr.add; split <;> simp_all
    rw [hadd]
    match j, hj with
    | 0, hj => simp at hj; subst hj; exact c0
    | j + 1, hj => simp at hj
  have hone : ∀ u ∈ ([str l] : List Value), u.oneCell' = true := by
    intro u hu
    simp at hu
    subst hu
    rfl
  refine wpList_append_own w hgd s x 91 ho base 9 i _ 1 16 Tryz.underlying91 hi hz hsz hb rfl (by decide) v ls.length (ls.map str) hs hown ⟨g, 0, none⟩ 1 c [str l] hx rfl hcell hone (by unfold maxLen; omega) (by omega) hbase ?_
  intro v' w' h1 h2 _
  refine h v' w' ?_ ?_
  · unfold OwS; rw [List.length_append, List.map_append]; exact h1
  · exact (Below.refl _ _).grown h2 hbase (fun k hk => (hown.lt k hk).1)

theorem str_part (s : List UInt8) (i j : Nat) (W : World) (h : i ≤ j) (hj : j ≤ s.length) : (Instr.slice 9 (str s) (some (.int .i64 i)) (some (.int .i64 j)) none).run Tryz.prog W = .ok (str ((s.drop i).take (j - i))) W := by
  have hz : (⟨s.toArray⟩ : ByteArray).size = s.length := str_size s
  unfold str
  rw [run_slice_string_if W 9 ⟨s.toArray⟩ .i64 .i64 i j (by kernel_rfl), if_pos (by omega), if_pos (by omega)]
  congr 3
  rw [Lib.extract_eq]
  simp
theorem str_rest (s : List UInt8) (i : Nat) (W : World) (h : i ≤ s.length) : (Instr.slice 9 (str s) (some (.int .i64 i)) none none).run Tryz.prog W = .ok (str (s.drop i)) W := by
  have hz : (⟨s.toArray⟩ : ByteArray).size = s.length := str_size s
  unfold str
  rw [run_slice_string_l W 9 ⟨s.toArray⟩ (by kernel_rfl) .i64 i (by omega) (by omega)]
  congr 3
  rw [Lib.extract_eq, hz]
  simp
  exact List.take_of_length_le (by simp)
theorem str_at (s : List UInt8) (i : Nat) (x : UInt8) (W : World) (h : s[i]? = some x) : (Instr.index 9 (str s) (.int .i64 i)).run Tryz.prog W = .ok (.int .u8 x.toNat) W := by
  have hz : (⟨s.toArray⟩ : ByteArray).size = s.length := str_size s
  have hi : i < s.length := (List.getElem?_eq_some_iff.1 h).1
  unfold str
  rw [run_index_string W 9 ⟨s.toArray⟩ .i64 i (by kernel_rfl), dif_pos (by omega)]
  congr 3
  have e : s[i] = x := by rw [List.getElem?_eq_getElem hi] at h; exact Option.some.inj h
  rw [← e]
  rfl
theorem str_len (t ty : TypeId) (s : List UInt8) (W : World) (h : Tryz.prog.underlying t = some .string) : (Builtin.len_ #[t] ty #[str s]).run Tryz.prog W = .ok (.int .i64 s.length) W := by
  unfold str
  rw [run_len_string W t ty ⟨s.toArray⟩ h, str_size]
  rfl

theorem drop_cut {s : List UInt8} {m k : Nat} {x : UInt8} (hm : m ≤ k) (hx : s[k]? = some x) : s.drop m = (s.drop m).take (k - m) ++ x :: s.drop (k + 1) := by
  have hk : k < s.length := (List.getElem?_eq_some_iff.1 hx).1
  have e : s[k] = x := (List.getElem?_eq_some_iff.1 hx).2
  have h1 : (s.drop m).drop (k - m) = x :: s.drop (k + 1) := by
    rw [List.drop_drop, show m + (k - m) = k from by omega, List.drop_eq_getElem_cons hk, e]
  rw [← h1, List.take_append_drop]
theorem take_more {s : List UInt8} {m k : Nat} {x : UInt8} (hm : m ≤ k) (hx : s[k]? = some x) : (s.drop m).take (k + 1 - m) = (s.drop m).take (k - m) ++ [x] := by
  have h := drop_cut hm hx
  have hk : k < s.length := (List.getElem?_eq_some_iff.1 hx).1
  rw [show k + 1 - m = (k - m) + 1 from by omega]
  rw [List.take_succ_eq_append_getElem (by simp; omega)]
  congr 2
  have e : s[k] = x := (List.getElem?_eq_some_iff.1 hx).2
  rw [← e, List.getElem_drop]
  congr 1
  omega
/-- Where a split at a byte stands. -/
def RelS (s : List UInt8) (c : UInt8) (w : World) (out f i : Value) (wr : World) : Prop :=
  ∃ (k m : Nat) (ls : List (List UInt8)), m ≤ k ∧ k ≤ s.length ∧ i = .int .i64 k ∧ f = .int .i64 m ∧ ls.length ≤ k ∧ ls ++ spL c (s.drop m) = spL c s ∧ c ∉ (s.drop m).take (k - m) ∧ OwS w.heap.size wr out ls ∧ Below w.heap.size w wr
set_option maxRecDepth 100000 in
set_option maxHeartbeats 1600000 in
theorem l1Split_is (s : List UInt8) (c : UInt8) (hs : s.length ≤ 1048576) (w : World) :
    Calls Tryz.prog 70 #[str s, .int .u8 c.toNat] w fun e w' => ∃ r, e = .returned r ∧ OwS w.heap.size w' r (spL c s) ∧ Below w.heap.size w w' := by
  go_enter Tryz.func70, Tryz.ntmps70
  go_wp2_with fail
  go_loopw [5, 6, 7] (fun out f i wr => RelS s c w out f i wr) (fun _ _ i _ => s.length - (intOf i).toNat)
  case atStart => exact ⟨0, 0, [], Nat.le_refl _, Nat.zero_le _, rfl, rfl, Nat.zero_le _, rfl, by simp, World.ownsRow_nil _ _ _ _, Below.refl _ _⟩
  case round =>
    obtain ⟨k, m, ls, hmk, hk, rfl, rfl, hll, hsp, hno, hown, hb⟩ := hrel
    have z := hb.size
    have HS := Lib.hid hsp
    have HN := Lib.hid hno
    have HO := Lib.hid hown
    clear hsp hno hown
    have fl : ∀ W, (Builtin.len_ #[9] 3 #[str s]).run Tryz.prog W = .ok (.int .i64 s.length) W := fun W => str_len _ _ s W (by kernel_rfl)
    by_cases hlt : k < s.length
    · obtain ⟨x, hx⟩ : ∃ x, s[k]? = some x := ⟨_, List.getElem?_eq_getElem hlt⟩
      have fa : ∀ W, (Instr.index 9 (str s) (.int .i64 k)).run Tryz.prog W = .ok (.int .u8 x.toNat) W := fun W => str_at s k x W hx
      obtain ⟨p, hp⟩ : ∃ p, p = (s.drop m).take (k - m) := ⟨_, rfl⟩
      have fp : ∀ W, (Instr.slice 9 (str s) (some (.int .i64 m)) (some (.int .i64 k)) none).run Tryz.prog W = .ok (.string ⟨p.toArray⟩) W := fun W => by rw [hp]; exact str_part s m k W hmk hk
      have HP := Lib.hid hp
      clear hp
      have HX := Lib.hid hx
      clear hx
      by_cases hc : x = c
      · subst hc
        go_wp2_with (at_builtin; refine append_s1 _ rfl _ _ rfl w.heap.size _ ls rfl ?own _ _ p rfl ?c0 ?len ?base ?_)
        case own => exact (HO.out.keep (by go_grown))
        case c0 => simp [go_sem, str]
        case len => omega
        case base => go_size
        intro v' w' hown hb2
        have hB : Below w.heap.size w w' := Below.trans (by go_grown) hb2
        clear hb2
        have HO2 := Lib.hid hown
        clear hown HO
        go_wp2_with fail
        go_roundw
        case rel =>
          refine ⟨k + 1, k + 1, ls ++ [p], by omega, by omega, by go_num, by go_num, by simp; omega, ?_, by simp, HO2.out, hB⟩
          have h1 := HS.out
          rw [drop_cut hmk HX.out, spL_app HN.out] at h1
          rw [List.append_assoc, HP.out]
          exact h1
        case measure => simp [intOf]; omega
      · have hne : ¬ (x.toNat : Int) = c.toNat := fun h => hc (UInt8.toNat_inj.1 (by omega))
        go_wp2_with fail
        go_roundw
        case rel =>
          refine ⟨k + 1, m, ls, by omega, by omega, by go_num, rfl, by omega, HS.out, ?_, HO.out, hb⟩
          rw [take_more hmk HX.out]
          simp only [List.mem_append, List.mem_singleton, not_or]
          exact ⟨HN.out, fun h => hc h.symm⟩
        case measure => simp [intOf]; omega
    · obtain rfl : k = s.length := by omega
      obtain ⟨p, hp⟩ : ∃ p, p = s.drop m := ⟨_, rfl⟩
      have fr : ∀ W, (Instr.slice 9 (str s) (some (.int .i64 m)) none none).run Tryz.prog W = .ok (.string ⟨p.toArray⟩) W := fun W => by rw [hp]; exact str_rest s m W hmk
      have HP := Lib.hid hp
      clear hp
      go_wp2_with (at_builtin; refine append_s1 _ rfl _ _ rfl w.heap.size _ ls rfl ?own _ _ p rfl ?c0 ?len ?base ?_)
      case own => exact (HO.out.keep (by go_grown))
      case c0 => simp [go_sem, str]
      case len => omega
      case base => go_size
      intro v' w' hown hb2
      have hB : Below w.heap.size w w' := Below.trans (by go_grown) hb2
      clear hb2
      have HE := Lib.hid (show OwS w.heap.size w' v' (spL c s) by
        have h1 := HS.out
        have h2 := HN.out
        rw [List.take_of_length_le (by simp)] at h2
        rw [spL_one h2] at h1
        rw [← h1, ← HP.out]
        exact hown)
      clear hown HO
      go_wp2_with fail
      go_ret
      exact ⟨_, rfl, HE.out, hB⟩

/-- Where raRead stands. -/
def RelRd (s : List UInt8) (w : World) (n i : Value) (wr : World) : Prop :=
  ∃ (k m : Nat), k ≤ s.length ∧ i = .int .i64 k ∧ n = .int .i64 m ∧ Lib.decFrom 0 (s.take k) = some m ∧ Below w.heap.size w wr
theorem decFrom_cut : ∀ {l : List UInt8} {acc k : Nat} {x : UInt8}, l[k]? = some x → ¬ (48 ≤ x.toNat ∧ x.toNat ≤ 57) → Lib.decFrom acc l = none
  | [], _, k, x, h, _ => by simp at h
  | a :: r, acc, 0, x, h, hx => by
    simp at h
    subst h
    simp [Lib.decFrom, Lib.digitVal, hx]
  | a :: r, acc, k + 1, x, h, hx => by
    simp only [Lib.decFrom]
    cases Lib.digitVal a with
    | none => rfl
    | some e => exact decFrom_cut (k := k) (by simpa using h) hx
theorem rdL_zero {s : List UInt8} (h : s[0]? = some 48 ∧ 1 < s.length) : rdL s = -1 := by unfold rdL; rw [if_neg]; rintro ⟨-, -, h'⟩; exact h' h
theorem rdL_len {s : List UInt8} (h : ¬ (1 ≤ s.length ∧ s.length ≤ 10)) : rdL s = -1 := by unfold rdL; rw [if_neg]; rintro ⟨h1, h2, -⟩; exact h ⟨h1, h2⟩
theorem rdL_cut {s : List UInt8} {k : Nat} {x : UInt8} (h : s[k]? = some x) (hx : ¬ (48 ≤ x.toNat ∧ x.toNat ≤ 57)) : rdL s = -1 := by
  unfold rdL
  split
  · rw [decFrom_cut h hx]
  · rfl
theorem rdL_yes {s : List UInt8} {m : Nat} (h1 : 1 ≤ s.length ∧ s.length ≤ 10) (h2 : ¬ (s[0]? = some 48 ∧ 1 < s.length)) (hm : Lib.decFrom 0 s = some m) : rdL s = m := by
  unfold rdL
  rw [if_pos ⟨h1.1, h1.2, h2⟩, hm]
set_option maxRecDepth 100000 in
set_option maxHeartbeats 1600000 in
theorem raRead_loop (s : List UInt8) (v : Int) (hv : rdL s = v) (h1 : 1 ≤ s.length ∧ s.length ≤ 10) (x0 : UInt8) (hx0 : s[0]? = some x0) (h2 : ¬ (x0 = 48 ∧ 1 < s.length)) (w : World) :
    Calls Tryz.prog 95 #[str s] w fun e w' => e = .returned (.int .i64 v) ∧ Below w.heap.size w w' := by
  have fl : ∀ W, (Builtin.len_ #[9] 3 #[str s]).run Tryz.prog W = .ok (.int .i64 s.length) W := fun W => str_len _ _ s W (by kernel_rfl)
  have fa : ∀ W, (Instr.index 9 (str s) (.int .i64 0)).run Tryz.prog W = .ok (.int .u8 x0.toNat) W := fun W => str_at s 0 x0 W hx0
  have b1 : (1 : Int) ≤ s.length ∧ (s.length : Int) ≤ 10 := by omega
  have H2 := Lib.hid (show ¬ (s[0]? = some 48 ∧ 1 < s.length) by rw [hx0]; rintro ⟨h, h'⟩; exact h2 ⟨Option.some.inj h, h'⟩)
  have HV := Lib.hid hv
  have g2 : (¬ (x0.toNat : Int) = 48) ∨ ((x0.toNat : Int) = 48 ∧ ¬ (1 : Int) < s.length) := by
    by_cases h : x0 = 48
    · subst h; exact .inr ⟨rfl, fun hh => h2 ⟨rfl, by omega⟩⟩
    · exact .inl (fun e => h (UInt8.toNat_inj.1 (by simpa using (show x0.toNat = 48 by omega))))
  clear hx0 h2 hv
  go_enter Tryz.func95, Tryz.ntmps95
  rcases g2 with g2 | ⟨g2, g3⟩
  all_goals
    go_wp2_with fail
    refine (l1In_yes _ _ _ (by omega) (by omega) _).mono ?_
    rintro e w1 ⟨rfl, rfl⟩
    go_wp2_with fail
    go_loopw [3, 4] (fun n i wr => RelRd s w1 n i wr) (fun _ i _ => s.length - (intOf i).toNat)
    case atStart => exact ⟨0, 0, Nat.zero_le _, rfl, rfl, rfl, by go_grown⟩
    case round =>
      obtain ⟨k, m, hk, rfl, rfl, hd, hb⟩ := hrel
      have hm := Lib.decFrom_lt _ _ _ hd
      have HD := Lib.hid hd
      clear hd
      by_cases hlt : k < s.length
      · have hm2 : (m : Int) < 10000000000 := by
          have h2 : 10 ^ (s.take k).length ≤ 10 ^ 10 := Nat.pow_le_pow_right (by decide) (by simp; omega)
          omega
        clear hm
        obtain ⟨x, hx⟩ : ∃ x, s[k]? = some x := ⟨_, List.getElem?_eq_getElem hlt⟩
        have fk : ∀ W, (Instr.index 9 (str s) (.int .i64 k)).run Tryz.prog W = .ok (.int .u8 x.toNat) W := fun W => str_at s k x W hx
        have HX := Lib.hid hx
        have xb : (x.toNat : Int) ≤ 255 := by have := x.toNat_lt; omega
        clear hx
        by_cases c1 : (x.toNat : Int) < 48
        · obtain rfl : -1 = v := by rw [← HV.out]; exact (rdL_cut HX.out (by omega)).symm
          go_wp2_with fail
          go_ret
          exact ⟨rfl, hb⟩
        · by_cases c2 : 57 < (x.toNat : Int)
          · obtain rfl : -1 = v := by rw [← HV.out]; exact (rdL_cut HX.out (by omega)).symm
            go_wp2_with fail
            go_ret
            exact ⟨rfl, hb⟩
          · have v1 : IntKind.u8.wrap ((x.toNat : Int) - 48) = (x.toNat : Int) - 48 := IntWalk.u8_in _ (by omega)
            have v2 : IntKind.i64.wrap (10 * (m : Int)) = 10 * m := IntWalk.i64_in _ (by omega)
            have v3 : IntKind.i64.wrap ((x.toNat : Int) - 48) = (x.toNat : Int) - 48 := IntWalk.i64_in _ (by omega)
            have v4 : IntKind.i64.wrap (10 * (m : Int) + ((x.toNat : Int) - 48)) = 10 * m + ((x.toNat : Int) - 48) := IntWalk.i64_in _ (by omega)
            go_wp2_with fail
            go_roundw
            case rel =>
              refine ⟨k + 1, m * 10 + (x.toNat - 48), by omega, by go_num, ?_, ?_, hb⟩
              · congr 1; omega
              · have e : s.take (k + 1) = s.take k ++ [x] := by
                  rw [List.take_succ_eq_append_getElem hlt]
                  congr 2
                  exact (List.getElem?_eq_some_iff.1 HX.out).2
                rw [e]
                exact decFrom_snoc x (by omega) _ _ _ HD.out
            case measure => simp [intOf] <;> omega
      · obtain rfl : k = s.length := by omega
        obtain rfl : (m : Int) = v := by
          rw [← HV.out]
          have h := HD.out
          rw [List.take_length] at h
          exact (rdL_yes h1 H2.out h).symm
        go_wp2_with fail
        go_ret
        exact ⟨rfl, hb⟩
set_option maxRecDepth 100000 in
set_option maxHeartbeats 1600000 in
theorem raRead_is (s : List UInt8) (v : Int) (hv : rdL s = v) (w : World) :
    Calls Tryz.prog 95 #[str s] w fun e w' => e = .returned (.int .i64 v) ∧ Below w.heap.size w w' := by
  have fl : ∀ W, (Builtin.len_ #[9] 3 #[str s]).run Tryz.prog W = .ok (.int .i64 s.length) W := fun W => str_len _ _ s W (by kernel_rfl)
  by_cases h1 : 1 ≤ s.length ∧ s.length ≤ 10
  · obtain ⟨x, hx⟩ : ∃ x, s[0]? = some x := ⟨_, List.getElem?_eq_getElem (by omega)⟩
    by_cases h2 : x = 48 ∧ 1 < s.length
    · obtain ⟨rfl, h2⟩ := h2
      have fa : ∀ W, (Instr.index 9 (str s) (.int .i64 0)).run Tryz.prog W = .ok (.int .u8 48) W := fun W => str_at s 0 48 W hx
      have b2 : (1 : Int) < s.length := by omega
      obtain rfl : -1 = v := by rw [← hv]; exact (rdL_zero ⟨hx, h2⟩).symm
      clear hv hx
      go_enter Tryz.func95, Tryz.ntmps95
      go_wp2_with fail
      refine (l1In_yes _ _ _ (by omega) (by omega) _).mono ?_
      rintro e w1 ⟨rfl, rfl⟩
      go_wp2_with fail
      go_ret
      exact ⟨rfl, by go_grown⟩
    · exact raRead_loop s v hv h1 x hx h2 w
  · obtain rfl : -1 = v := by rw [← hv]; exact (rdL_len h1).symm
    clear hv
    have b1 : ¬ ((1 : Int) ≤ s.length ∧ (s.length : Int) ≤ 10) := by omega
    go_enter Tryz.func95, Tryz.ntmps95
    go_wp2_with fail
    refine (l1In_no _ _ _ b1 _).mono ?_
    rintro e w1 ⟨rfl, rfl⟩
    go_wp2_with fail
    go_ret
    exact ⟨rfl, by go_grown⟩

end Go.Proofs.YtkeajfgcjmhmiaaGreatDoor
