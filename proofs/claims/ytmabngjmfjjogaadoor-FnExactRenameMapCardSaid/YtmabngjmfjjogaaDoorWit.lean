/- laWith of the reference: a named map put in its place. -/
import Derived.Test.YtmabngjmfjjogaaDoorIns
namespace Go.Proofs.YtmabngjmfjjogaaDoor
open Go.RowKit

def leS (a b : List UInt8) : Bool := decide (a < b) || decide (a = b)
theorem leS_yes {a b : List UInt8} (h : ltS a b) : leS a b = true := by
  unfold leS
  unfold ltS at h
  simp [h]
theorem leS_no {a b : List UInt8} (h : ltS b a) (hne : b ≠ a) : leS a b = false := by
  unfold leS
  have h1 : ¬ a < b := fun hh => ltS_irr _ (ltS_trans h hh)
  have h2 : ¬ a = b := fun hh => hne hh.symm
  simp only [decide_eq_false h1, decide_eq_false h2, Bool.or_false]
theorem less_leS (a b : List UInt8) : (Op.bytesLess a b || a == b) = leS a b := by
  unfold leS
  rw [Proofs.bytesLess_eq]
  by_cases h2 : a = b
  · simp [h2]
  · simp [h2]
/-- A row of named maps, the row's block and the maps' blocks bounded apart. -/
def OwNL (b1 b2 : Nat) (w : World) (v : Value) (ns : List Nm) : Prop := ∃ ms : List Value, w.ownsRow b1 89 2 v ns.length (rowN ns ms) ∧ OwM b2 w ns ms
theorem OwNL.keep {b1 b2 : Nat} {w w' : World} {v : Value} {ns : List Nm} (h : OwNL b1 b2 w v ns) (hb : Below w.heap.size w w') : OwNL b1 b2 w' v ns := by
  obtain ⟨ms, h1, h2⟩ := h
  exact ⟨ms, ownsRow_keep h1 hb, h2.keep hb⟩
theorem OwNL.blk {b1 b2 : Nat} {w : World} {v : Value} {ns : List Nm} (h : OwNL b1 b2 w v ns) : ∀ b, v.ownBlock = some b → b < w.heap.size := fun b hb => (World.ownsRow.lt h.choose_spec.1 b hb).2
theorem append_g {ops : Array Oper} {rest : List Oper} {o : Oper} {a : Act} {K : Exit → Act → World → Prop} (w : World) (hgd : o.guard = none) (s x : Operand)
    (ho : o.op = .call { callee := .builtin .append, args := #[s, x], argTypes := #[46, 46] })
    (b1 b2 b3 B B' : Nat) (v : Value) (ns : List Nm) (hs : a.eval s = v) (w0 : World) (hown : OwNL b1 b2 w0 v ns) (hX : Below w0.heap.size w0 w)
    (g c : Nat) (n : Nm) (A : Option Addr) (k cp : Nat) (hx : a.eval x = .slice (some ⟨g, 0, none⟩) 1 c) (c0 : w.cell? ⟨g, 0, none⟩ = some (.string ⟨n.1.toArray⟩)) (c1 : w.cell? ⟨g, 1, none⟩ = some (.slice A k cp)) (hmv : OwP B 74 w (.slice A k cp) n.2)
    (hsep : w0.heap.size ≤ B ∨ (∀ b, (Value.slice A k cp).ownBlock = some b → b < b2)) (h31 : b3 ≤ b2) (h32 : b3 ≤ B)
    (hlen : ns.length ≤ 900000) (hbase : b1 ≤ w0.heap.size) (hB' : ∀ b, v.ownBlock = some b → b < B') 
    (h : ∀ v' w', OwNL b1 b3 w' v' (ns ++ [n]) → Below b1 w w' → (∀ b o u, B' ≤ b → w.cell? ⟨b, o, none⟩ = some u → w'.cell? ⟨b, o, none⟩ = some u) → wpList Tryd.prog ops K rest (a.put o.dst v') w') : wpList Tryd.prog ops K (o :: rest) a w := by
  obtain ⟨i, hi, hz, hsz, hby⟩ := info_parts Tryd.infoN
  obtain ⟨ms, h1, h2⟩ := hown
  have hs2 : ∀ m ∈ ms, Sep m (.slice A k cp) := by
    intro m hm
    obtain ⟨j, hj⟩ := List.getElem?_of_mem hm
    have hjl : j < ns.length := by have := (List.getElem?_eq_some_iff.1 hj).1; have := h2.1; omega
    have hr := h2.2.1 j _ m (List.getElem?_eq_getElem hjl) hj
    rcases hsep with hsep | hsep
    · exact sep_rows hr hmv hsep
    · intro b hb hf
      have := (World.ownsRow.lt hr b hb).1
      have := hsep b hf
      omega
  replace h1 := ownsRow_keep h1 hX
  replace h2 := h2.keep hX
  have hap := OwN.apart (ownsRow_low h1 (Nat.min_le_left b1 b2)) (h2.low (Nat.min_le_right b1 b2))
  have hsv : Sep v (.slice A k cp) := sep_of h1 hmv (by decide)
  refine wpList_append_own w hgd s x 46 ho b1 89 i _ 2 40 Tryd.underlying46 hi hz hsz hby rfl (by decide) v ns.length (rowN ns ms) hs h1 ⟨g, 0, none⟩ 1 c [str n.1, .slice A k cp] hx rfl (fun j u hj => ?_) (fun u hu => ?_) (by unfold maxLen; omega) (by omega) (Nat.le_trans hbase hX.size) ?_
  · rw [addr_add]
    match j, hj with
    | 0, hj => simp at hj; subst hj; exact c0
    | 1, hj => simp at hj; subst hj; exact c1
    | j + 2, hj => simp at hj
  · simp at hu
    rcases hu with rfl | rfl <;> rfl
  · intro v' w' k1 k2 _
    have hm' := (h2.grownM k2 hap).low h31
    have ho' := (hmv.grownM k2 hsv).low h32
    have e1 : insL ns ns.length n = ns ++ [n] := by unfold insL; rw [List.take_length, List.drop_length]
    have e2 : insL ms ns.length (.slice A k cp) = ms ++ [.slice A k cp] := by unfold insL; rw [← h2.1, List.take_length, List.drop_length]
    have hM := hm'.ins (x := n) (f := .slice A k cp) (i := ns.length) ho' hs2 (Nat.le_refl _)
    rw [e1, e2] at hM
    refine h v' w' ⟨ms ++ [.slice A k cp], ?_, hM⟩ ((Below.refl _ _).grown k2 (Nat.le_trans hbase hX.size) (fun k hk => (h1.lt k hk).1)) (fun b o u hb hc => k2.cell (a := ⟨b, o, none⟩) hc (fun hh => ?_))
    · rw [List.length_append, List.length_singleton, rowN_app h2.1]
      exact k1
    · have := hB' b hh.symm
      omega

/-- The first k of a row, the new one put in at i once k is past it. -/
def preL (ns : List Nm) (i : Nat) (x : Nm) (k : Nat) : List Nm := if k ≤ i then ns.take k else ns.take i ++ x :: (ns.drop i).take (k - i)
theorem preL_len (ns : List Nm) (i : Nat) (x : Nm) (k : Nat) : (preL ns i x k).length ≤ ns.length + 1 := by
  unfold preL
  split
  · rw [List.length_take]; omega
  · simp only [List.length_append, List.length_take, List.length_cons, List.length_drop]; omega
theorem preL_le {ns : List Nm} {i k : Nat} {x : Nm} (h : k ≤ i) : preL ns i x k = ns.take k := by unfold preL; rw [if_pos h]
theorem preL_at {ns : List Nm} {i : Nat} {x m : Nm} (hm : ns[i]? = some m) : preL ns i x (i + 1) = ns.take i ++ [x] ++ [m] := by
  unfold preL
  rw [if_neg (by omega), show i + 1 - i = 0 + 1 by omega, snocT (by rw [List.getElem?_drop]; simpa using hm)]
  simp
theorem preL_gt {ns : List Nm} {i k : Nat} {x m : Nm} (h : i < k) (hm : ns[k]? = some m) : preL ns i x (k + 1) = preL ns i x k ++ [m] := by
  unfold preL
  rw [if_neg (by omega), if_neg (by omega), show k + 1 - i = (k - i) + 1 by omega, snocT (by rw [List.getElem?_drop, show i + (k - i) = k by omega]; exact hm)]
  simp
theorem preL_end {ns : List Nm} {i : Nat} {x : Nm} (h : i < ns.length) : preL ns i x ns.length = insL ns i x := by
  unfold preL insL
  have hd : (ns.drop i).take (ns.length - i) = ns.drop i := List.take_of_length_le (by rw [List.length_drop]; omega)
  rw [if_neg (by omega), hd]

def RelWi (ns : List Nm) (i lo B : Nat) (x : Nm) (w : World) (out pl j : Value) (wr : World) : Prop :=
  ∃ k : Nat, k ≤ ns.length ∧ j = .int .i64 k ∧ pl = .bool (decide (i < k)) ∧ OwNL B (if k ≤ i then w.heap.size else lo) wr out (preL ns i x k) ∧ Below w.heap.size w wr
theorem OwNL.nil (b1 b2 : Nat) (w : World) : OwNL b1 b2 w (.slice none 0 0) [] := ⟨[], World.ownsRow_nil _ _ _ _, rfl, fun i n m h => by simp at h, fun i j m u _ h => by simp at h⟩
set_option maxRecDepth 100000 in
set_option maxHeartbeats 6400000 in
theorem laWith_is (ns : List Nm) (v : Value) (x : Nm) (i lo : Nat) (f : Value) (w : World) (hv : RdE w v ns) (hn : ns.length ≤ 100000) (hms : MapsE ns) (hf : OwP lo 74 w f x.2) (hlo : lo ≤ w.heap.size)
    (hno : ∀ n ∈ ns, n.1 ≠ x.1) (hi : i ≤ ns.length) (h1 : ∀ j m, j < i → ns[j]? = some m → ltS m.1 x.1) (h2 : ∀ j m, i ≤ j → ns[j]? = some m → ¬ ltS m.1 x.1) :
    Calls Tryd.prog 80 #[v, .agg #[str x.1, f]] w fun e w' => ∃ r, e = .returned r ∧ OwN lo w' r (insL ns i x) ∧ Below w.heap.size w w' := by
  obtain ⟨A, c, rfl, hl, hmx, hcell⟩ := hv
  unfold maxLen at hmx
  obtain ⟨Af, cf, rfl, -, -⟩ := ownsRow_slice hf
  have HC := Lib.hid hcell
  have HFm := Lib.hid hf
  have HNo := Lib.hid hno
  have H1 := Lib.hid h1
  have H2 := Lib.hid h2
  have hfl : ∀ b, (Value.slice Af x.2.length cf).ownBlock = some b → b < w.heap.size := fun b hb => (World.ownsRow.lt hf b hb).2
  clear hcell hf hno h1 h2
  unfold str
  go_enter Tryd.func80, Tryd.ntmps80
  go_wp2_with fail
  go_name_world W0 hW
  have e0 : W0.cell? ⟨w.heap.size, 0, none⟩ = some (.string ⟨x.1.toArray⟩) := by rw [← hW]; simp [go_sem]
  have e1 : W0.cell? ⟨w.heap.size, 1, none⟩ = some (.slice Af x.2.length cf) := by rw [← hW]; simp [go_sem]
  have hB0 : Below w.heap.size w W0 := by rw [← hW]; go_grown
  have hz0 : w.heap.size < W0.heap.size := lt_of_cell e0
  clear hW
  go_loopw [5, 6, 11] (fun out pl j wr => RelWi ns i lo W0.heap.size x w out pl j wr ∧ Below W0.heap.size W0 wr) (fun _ _ j _ => ns.length - (intOf j).toNat)
  case atStart => exact ⟨⟨0, Nat.zero_le _, rfl, rfl, OwNL.nil _ _ _, nextW hB0 (by go_grown)⟩, by go_grown⟩
  case round =>
    obtain ⟨⟨k, hk, rfl, rfl, hown, hb⟩, hb0⟩ := hrel
    have hvl := hown.blk
    have HO := Lib.hid hown
    have hzr := hb.size
    have hzr0 := hb0.size
    have E0 := Lib.hid (And.intro e0 e1)
    have hq0 : w.heap.size < wr.heap.size := by omega
    have hq1 : ¬ w.heap.size = wr.heap.size := by omega
    have hq2 : ¬ wr.heap.size = w.heap.size := by omega
    replace e0 := cellB hb0 e0
    replace e1 := cellB hb0 e1
    have hpl := preL_len ns i x k
    clear hown
    by_cases hlt : k < ns.length
    · obtain ⟨g, o, rfl, hg, hcc⟩ := HC.out (by rintro rfl; simp at hlt)
      have hx := List.getElem?_eq_getElem hlt
      generalize ns[k] = n at *
      obtain ⟨c0, mv, c1, hp⟩ := hcc k n hx
      obtain ⟨A1, k1, rfl, -, -, -⟩ := id hp
      have HM := Lib.hid (hms n (List.mem_of_getElem? hx))
      have HP := Lib.hid (hp.keep hb)
      have HPw := Lib.hid hp
      have HX := Lib.hid hx
      replace c0 := cellB hb c0
      replace c1 := cellB hb c1
      unfold str at c0
      have b0 : (0 : Int) ≤ (k : Int) := by omega
      have b1 : (k : Int) < (ns.length : Int) := by omega
      have v1 : IntKind.i64.wrap ((k : Int) + 1) = (k : Int) + 1 := IntWalk.i64_in _ (by omega)
      have hne : n.1 ≠ x.1 := HNo.out n (List.mem_of_getElem? hx)
      clear hp hx hcc HC
      have hq : ∀ W, (binOp .neq 9 (.string ⟨n.1.toArray⟩) (.string ⟨x.1.toArray⟩)).run Tryd.prog W = .ok (.bool (decide (n.1 ≠ x.1))) W := fun W => neq_str W n.1 x.1
      have hgd : ∀ (W : World) (a b : Operand), (eqGuard .neq 9 a b (.string ⟨n.1.toArray⟩) (.string ⟨x.1.toArray⟩)).run Tryd.prog W = .ok () W := fun W a b => by go_simp
      have hle := less_leS x.1 n.1
      have hd : decide (n.1 ≠ x.1) = true := by simpa using hne
      rw [hd] at hq
      have hnb : (n.1 == x.1) = false := by simpa using hne
      clear hd
      rcases Nat.lt_trichotomy k i with hki | hki | hki
      · have hlz : leS x.1 n.1 = false := leS_no (H1.out k n hki HX.out) hne
        have hd2 : decide (i < k) = false := by simp; omega
        have hd3 : decide (i < k + 1) = false := by simp; omega
        rw [hlz] at hle
        rw [hd2]
        have HE := Lib.hid (show preL ns i x (k + 1) = preL ns i x k ++ [n] by rw [preL_le (ns := ns) (x := x) (show k ≤ i by omega), preL_le (show k + 1 ≤ i by omega), snocT HX.out])
        have hO1 := HO.out
        rw [if_pos (show k ≤ i by omega)] at hO1
        replace HO := Lib.hid hO1
        clear hO1 hlz hne hfl
        go_wp2_with fail
        refine (laOwn_is n _ _ (HP.out.keep (by go_grown)) HM.out).mono ?_
        rintro e w2 ⟨Ar, cr, rfl, ho, h2⟩
        have hX : Below wr.heap.size wr w2 := nextX (by go_grown) h2
        have HR := Lib.hid (ho.low (b := wr.heap.size) (by go_size))
        clear ho h2
        go_wp2_with (at_builtin; refine append_g _ rfl _ _ rfl W0.heap.size w.heap.size w.heap.size wr.heap.size wr.heap.size _ (preL ns i x k) rfl wr HO.out ?hx _ _ n Ar n.2.length cr rfl ?c0 ?c1 ?mv (.inl (Nat.le_refl _)) (Nat.le_refl _) hzr ?len hzr0 ?hB ?_)
        case hx => exact nextX hX (by go_grown)
        case c0 => simp [go_sem]
        case c1 => simp [go_sem]
        case mv => exact HR.out.keep (by go_grown)
        case len => omega
        case hB => exact hvl
        rintro v' w' hown h7 -
        have hXX : Below W0.heap.size W0 w' := Below.trans (nextW hb0 (nextX hX (by go_grown))) h7
        have hB7 : Below w.heap.size w w' := nextW hB0 hXX
        have HO7 := Lib.hid (show OwNL W0.heap.size (if k + 1 ≤ i then w.heap.size else lo) w' v' (preL ns i x (k + 1)) by rw [HE.out, if_pos (show k + 1 ≤ i by omega)]; exact hown)
        clear hown h7
        go_wp2_with fail
        go_roundw
        case rel => exact ⟨⟨k + 1, by omega, by go_num, by rw [hd3], HO7.out, hB7⟩, hXX⟩
        case measure => simp [intOf] <;> omega
      · have hlz : leS x.1 n.1 = true := leS_yes (ltS_tri (H2.out k n (by omega) HX.out) hne)
        have hd2 : decide (i < k) = false := by simp; omega
        have hd3 : decide (i < k + 1) = true := by simp; omega
        rw [hlz] at hle
        rw [hd2]
        have HE := Lib.hid (show preL ns i x (k + 1) = preL ns i x k ++ [x] ++ [n] by subst hki; rw [preL_at HX.out, preL_le (Nat.le_refl _)])
        have hO1 := HO.out
        rw [if_pos (show k ≤ i by omega)] at hO1
        replace HO := Lib.hid hO1
        have hk1 : k ≤ i := Nat.le_of_eq hki
        have hk2 : i ≤ k := Nat.le_of_eq hki.symm
        clear hO1 hlz hne hki
        go_wp2_with (at_builtin; refine append_g _ rfl _ _ rfl W0.heap.size w.heap.size lo lo wr.heap.size _ (preL ns i x k) rfl wr HO.out ?hx _ _ x Af x.2.length cf rfl ?c0 ?c1 ?mv (.inr hfl) hlo (Nat.le_refl _) ?len hzr0 ?hB ?_)
        case hx => go_grown
        case c0 => simp [go_sem]
        case c1 => simp [go_sem]
        case mv => exact HFm.out.keep (nextX hb (by go_grown))
        case len => omega
        case hB => exact hvl
        intro v1 w1 hown h7 hcells
        have hvl1 := hown.blk
        have hX1 : Below W0.heap.size W0 w1 := Below.trans (nextW hb0 (by go_grown)) h7
        have f0 : w1.cell? ⟨wr.heap.size, 0, none⟩ = some (.string ⟨n.1.toArray⟩) := hcells _ _ _ (Nat.le_refl _) (by simp [go_sem])
        have f1 : w1.cell? ⟨wr.heap.size, 1, none⟩ = some (.slice A1 n.2.length k1) := hcells _ _ _ (Nat.le_refl _) (by simp [go_sem])
        obtain ⟨g0, g1⟩ := E0.out
        replace g0 := cellB hX1 g0
        replace g1 := cellB hX1 g1
        have hB1 : Below w.heap.size w w1 := nextW hB0 hX1
        have hz1 := hX1.size
        have hpl1 : (preL ns i x k ++ [x]).length ≤ ns.length + 2 := by rw [List.length_append]; simp; omega
        have HO1 := Lib.hid hown
        clear hown h7 hcells e0 e1 c0 c1 HO hvl E0 hfl
        go_wp2_with fail
        refine (laOwn_is n _ _ (HPw.out.keep (nextX hB1 (by go_grown))) HM.out).mono ?_
        rintro e w2 ⟨Ar, cr, rfl, ho, h2⟩
        have hX : Below w1.heap.size w1 w2 := nextX (by go_grown) h2
        have HR := Lib.hid (ho.low (b := w1.heap.size) (by go_size))
        clear ho h2
        go_wp2_with (at_builtin; refine append_g _ rfl _ _ rfl W0.heap.size lo lo w1.heap.size w1.heap.size _ (preL ns i x k ++ [x]) rfl w1 HO1.out ?hx _ _ n Ar n.2.length cr rfl ?c0 ?c1 ?mv (.inl (Nat.le_refl _)) (Nat.le_refl _) (by omega) ?len hz1 ?hB ?_)
        case hx => exact nextX hX (by go_grown)
        case c0 => simp [go_sem]
        case c1 => simp [go_sem]
        case mv => exact HR.out.keep (by go_grown)
        case len => omega
        case hB => exact hvl1
        rintro v' w' hown h7 -
        have hXX : Below W0.heap.size W0 w' := Below.trans (nextW hX1 (nextX hX (by go_grown))) h7
        have hB7 : Below w.heap.size w w' := nextW hB0 hXX
        have HO7 := Lib.hid (show OwNL W0.heap.size (if k + 1 ≤ i then w.heap.size else lo) w' v' (preL ns i x (k + 1)) by rw [HE.out, if_neg (by omega), List.append_assoc]; exact hown)
        clear hown h7
        go_wp2_with fail
        go_roundw
        case rel => exact ⟨⟨k + 1, by omega, by go_num, by rw [hd3], HO7.out, hB7⟩, hXX⟩
        case measure => simp [intOf] <;> omega
      · have hd2 : decide (i < k) = true := by simp; omega
        have hd3 : decide (i < k + 1) = true := by simp; omega
        rw [hd2]
        have HE := Lib.hid (show preL ns i x (k + 1) = preL ns i x k ++ [n] from preL_gt hki HX.out)
        have hO1 := HO.out
        rw [if_neg (show ¬ k ≤ i by omega)] at hO1
        replace HO := Lib.hid hO1
        clear hO1 hne hfl
        go_wp2_with fail
        refine (laOwn_is n _ _ (HP.out.keep (by go_grown)) HM.out).mono ?_
        rintro e w2 ⟨Ar, cr, rfl, ho, h2⟩
        have hX : Below wr.heap.size wr w2 := nextX (by go_grown) h2
        have HR := Lib.hid (ho.low (b := wr.heap.size) (by go_size))
        clear ho h2
        go_wp2_with (at_builtin; refine append_g _ rfl _ _ rfl W0.heap.size lo lo wr.heap.size wr.heap.size _ (preL ns i x k) rfl wr HO.out ?hx _ _ n Ar n.2.length cr rfl ?c0 ?c1 ?mv (.inl (Nat.le_refl _)) (Nat.le_refl _) (by omega) ?len hzr0 ?hB ?_)
        case hx => exact nextX hX (by go_grown)
        case c0 => simp [go_sem]
        case c1 => simp [go_sem]
        case mv => exact HR.out.keep (by go_grown)
        case len => omega
        case hB => exact hvl
        rintro v' w' hown h7 -
        have hXX : Below W0.heap.size W0 w' := Below.trans (nextW hb0 (nextX hX (by go_grown))) h7
        have hB7 : Below w.heap.size w w' := nextW hB0 hXX
        have HO7 := Lib.hid (show OwNL W0.heap.size (if k + 1 ≤ i then w.heap.size else lo) w' v' (preL ns i x (k + 1)) by rw [HE.out, if_neg (show ¬ k + 1 ≤ i by omega)]; exact hown)
        clear hown h7
        go_wp2_with fail
        go_roundw
        case rel => exact ⟨⟨k + 1, by omega, by go_num, by rw [hd3], HO7.out, hB7⟩, hXX⟩
        case measure => simp [intOf] <;> omega
    · obtain rfl : k = ns.length := by omega
      by_cases hin : i < ns.length
      · have hd2 : decide (i < ns.length) = true := by simpa using hin
        rw [hd2]
        have hO1 := HO.out
        rw [if_neg (show ¬ ns.length ≤ i by omega), preL_end hin] at hO1
        have HF := Lib.hid (show OwN lo wr _ (insL ns i x) by obtain ⟨ms, h1, h2⟩ := hO1; exact ⟨ms, ownsRow_low h1 (by omega), h2⟩)
        clear hO1
        go_wp2_with fail
        go_ret
        exact ⟨_, rfl, HF.out, hb⟩
      · have hd2 : decide (i < ns.length) = false := by simpa using hin
        rw [hd2]
        obtain rfl : i = ns.length := by omega
        have hO1 := HO.out
        rw [if_pos (Nat.le_refl _)] at hO1
        replace HO := Lib.hid hO1
        have HE := Lib.hid (show insL ns ns.length x = preL ns ns.length x ns.length ++ [x] by unfold insL; rw [preL_le (Nat.le_refl _), List.drop_length])
        clear hO1
        go_wp2_with (at_builtin; refine append_g _ rfl _ _ rfl W0.heap.size w.heap.size lo lo wr.heap.size _ (preL ns ns.length x ns.length) rfl wr HO.out ?hx _ _ x Af x.2.length cf rfl ?c0 ?c1 ?mv (.inr hfl) hlo (Nat.le_refl _) ?len hzr0 ?hB ?_)
        case hx => go_grown
        case c0 => simp [go_sem]
        case c1 => simp [go_sem]
        case mv => exact HFm.out.keep (nextX hb (by go_grown))
        case len => omega
        case hB => exact hvl
        intro v1 w1 hown h7 hcells
        have hX1 : Below W0.heap.size W0 w1 := Below.trans (nextW hb0 (by go_grown)) h7
        have hB1 : Below w.heap.size w w1 := nextW hB0 hX1
        have HF := Lib.hid (show OwN lo w1 v1 (insL ns ns.length x) by rw [HE.out]; obtain ⟨ms, h1, h2⟩ := hown; exact ⟨ms, ownsRow_low h1 (by omega), h2⟩)
        clear hown h7 hcells hX1
        go_wp2_with fail
        go_ret
        exact ⟨_, rfl, HF.out, hB1⟩

end Go.Proofs.YtmabngjmfjjogaaDoor
