/-
  Part 15 of the proof: contracts and plain laws. Conditions: none.
-/
import Derived.Lib.AtoiErrMem
import Derived.WalkKit
import Derived.BigCall
import Derived.Test.YtjdcpnaocjddoaaGreatDoorHK14
namespace Go.Proofs.YtjdcpnaocjddoaaGreatDoor
open Go Go.RowKit Go.Proofs.Tryz Go.Shelf
/-- A piece that is handed out, and those before it. -/
structure StX where
  pre : List (List UInt8)
  v : List UInt8
  w : World
def encStX (x : StX) : Value := .string (strB x.v)
def YSt (L : List (List UInt8)) (D : Nat) (C : List (List UInt8) → World → Prop) (x : StX) (W : World) : Prop := C x.pre W ∧ ((∃ r, L = x.pre ++ x.v :: r) ∧ D + 1 < W.heap.size) ∧ Upd (· = D + 1) x.w W
def ZSt (T : Nat → Prop) (C : List (List UInt8) → World → Prop) (x : StX) (W : World) : Prop := C (x.pre ++ [x.v]) W ∧ Upd T x.w W
def FSt (T : Nat → Prop) (Cf : List (List UInt8) × List UInt8 → World → Prop) (x : StX) (W : World) : Prop := Cf (x.pre, x.v) W ∧ Upd T x.w W
def EndS (L : List (List UInt8)) (Cf : List (List UInt8) × List UInt8 → World → Prop) (W : World) : Prop := ∃ pre v post, L = pre ++ v :: post ∧ Cf (pre, v) W
theorem YSt.turned {L : List (List UInt8)} {D : Nat} {C : List (List UInt8) → World → Prop} (hC : Turned (D + 1) C) : Turned (D + 1) (YSt L D C) := fun _x _W _W' h hl u => ⟨hC _ _ _ h.1 hl u, ⟨h.2.1.1, Nat.lt_of_lt_of_le h.2.1.2 u.size⟩, h.2.2.trans u⟩
theorem ZSt.turned {D : Nat} {T : Nat → Prop} {C : List (List UInt8) → World → Prop} (hC : Turned (D + 1) C) (hT : T (D + 1)) : Turned (D + 1) (ZSt T C) := fun x W W' h hl u => ⟨hC _ _ _ h.1 hl u, h.2.trans (u.mono fun i e => by subst e; exact hT)⟩
theorem FSt.turned {D : Nat} {T : Nat → Prop} {Cf : List (List UInt8) × List UInt8 → World → Prop} (hC : Turned (D + 1) Cf) (hT : T (D + 1)) : Turned (D + 1) (FSt T Cf) := fun x W W' h hl u => ⟨hC _ _ _ h.1 hl u, h.2.trans (u.mono fun i e => by subst e; exact hT)⟩
theorem EndS.turned {D : Nat} {L : List (List UInt8)} {Cf : List (List UInt8) × List UInt8 → World → Prop} (hC : Turned (D + 1) Cf) : Turned (D + 1) (fun (_ : Unit) W => EndS L Cf W) := fun _ W W' h hl u => by
  obtain ⟨pre, v, post, e, h⟩ := h
  exact ⟨pre, v, post, e, hC _ _ _ h hl u⟩
/-- lines as they are handed out -/
def lnsP (s : List UInt8) : List (List UInt8) := (linesP s).map (· ++ [10])
structure LnI (s : List UInt8) (p : List (List UInt8)) (r : List UInt8) : Prop where
  eq : lnsP s = p ++ lnsP r
  fin : r ≠ [] → nth r (r.length - 1) = 10
  len : r.length ≤ s.length
theorem LnI.nil {s : List UInt8} (h : s ≠ [] → nth s (s.length - 1) = 10) : LnI s [] s := ⟨rfl, h, Nat.le_refl _⟩
theorem LnI.has {s : List UInt8} {p : List (List UInt8)} {r : List UInt8} (h : LnI s p r) (hr : 0 < r.length) : 0 ≤ Lib.indexByte r 10 := by
  rcases idx_spec 10 r with ⟨_, h2⟩ | ⟨i, h1, _⟩
  · exact absurd (h.fin (List.length_pos_iff.1 hr)) (h2 _ (by omega))
  · omega
theorem lnsP_hit {r : List UInt8} {i : Nat} (h : Lib.indexByte r 10 = i) : lnsP r = r.take (i + 1) :: lnsP (r.drop (i + 1)) := by
  obtain ⟨h1, h2, h3⟩ := pcs_hit h
  unfold lnsP linesP
  rw [h3]
  cases hp : pcs 10 (r.drop (i + 1)) with
  | nil => exact absurd hp (pcs_ne _ _)
  | cons y t =>
    rw [List.dropLast_cons_cons, List.map_cons, take_nth h1, h2]
theorem LnI.mem {s : List UInt8} {p : List (List UInt8)} {r : List UInt8} (h : LnI s p r) {i : Nat} (hi : Lib.indexByte r 10 = i) : ∃ q, lnsP s = p ++ r.take (i + 1) :: q := ⟨_, by rw [h.eq, lnsP_hit hi]⟩
theorem LnI.next {s : List UInt8} {p : List (List UInt8)} {r : List UInt8} (h : LnI s p r) {i : Nat} (hi : Lib.indexByte r 10 = i) : LnI s (p ++ [r.take (i + 1)]) (r.drop (i + 1)) := by
  obtain ⟨h1, h2, h3⟩ := pcs_hit hi
  have hl := h.len
  refine ⟨by rw [h.eq, lnsP_hit hi, List.append_assoc]; rfl, fun hn => ?_, by rw [List.length_drop]; omega⟩
  have hp := List.length_pos_iff.2 hn
  rw [List.length_drop] at hp ⊢
  rw [nth_drop, show i + 1 + (r.length - (i + 1) - 1) = r.length - 1 by omega]
  exact h.fin (by intro e; rw [e] at h1; cases h1)
theorem LnI.end_ {s : List UInt8} {p : List (List UInt8)} {r : List UInt8} (h : LnI s p r) (hr : r.length = 0) : lnsP s = p := by
  have e := List.eq_nil_of_length_eq_zero hr
  subst e
  rw [h.eq]
  show p ++ [] = p
  exact List.append_nil _
/-- pieces that are handed out -/
structure SqI (c : UInt8) (s : List UInt8) (p : List (List UInt8)) (r : List UInt8) : Prop where
  eq : pcs c s = p ++ pcs c r
  len : r.length ≤ s.length
theorem SqI.nil (c : UInt8) (s : List UInt8) : SqI c s [] s := ⟨rfl, Nat.le_refl _⟩
theorem SqI.mem {c : UInt8} {s : List UInt8} {p : List (List UInt8)} {r : List UInt8} (h : SqI c s p r) {i : Nat} (hi : Lib.indexByte r c = i) : ∃ q, pcs c s = p ++ r.take i :: q := ⟨_, by rw [h.eq, (pcs_hit hi).2.2]⟩
theorem SqI.next {c : UInt8} {s : List UInt8} {p : List (List UInt8)} {r : List UInt8} (h : SqI c s p r) {i : Nat} (hi : Lib.indexByte r c = i) : SqI c s (p ++ [r.take i]) (r.drop (i + 1)) := by
  have hl := h.len
  refine ⟨by rw [h.eq, (pcs_hit hi).2.2, List.append_assoc]; rfl, by rw [List.length_drop]; omega⟩
theorem SqI.end_ {c : UInt8} {s : List UInt8} {p : List (List UInt8)} {r : List UInt8} (h : SqI c s p r) (hi : Lib.indexByte r c < 0) : pcs c s = p ++ [r] := by rw [h.eq, pcs_miss hi]
set_option maxRecDepth 100000 in
theorem numbS (s : ByteArray) (hlim : s.size ≤ 281474976710656) (ev0 ev1 : Value) (w : World) (hv0 : w.cell? ⟨(layAtoi_ren.g 15), 0, none⟩ = some ev0) (he0 : ev0 = .nilIface ∨ ∃ te pe, ev0 = .iface te pe) (hv1 : w.cell? ⟨(layAtoi_ren.g 16), 0, none⟩ = some ev1) (he1 : ev1 = .nilIface ∨ ∃ te pe, ev1 = .iface te pe) :
    Calls Tryz.prog 117 #[.string s] w fun e w' => e = .returned (.int .i64 (Lib.atoiOr s.data.toList (-1))) ∧ Below w.heap.size w w' := by
  cases h : Lib.atoiAll s.data.toList
  · rename_i v
    have hr : Lib.atoiOr s.data.toList (-1) = v := by simp only [Lib.atoiOr, h]
    rw [hr]
    go_enter func117, Tryz.ntmps117
    go_wp2_with (go_at_call 132; refine (Any.strconv_Atoi_ok layAtoi s (by omega) v h _).mono ?_; rintro e w' ⟨rfl, hw⟩)
    go_ret
    refine ⟨rfl, ?_⟩
    rcases hw with rfl | ⟨t, rfl⟩
    · exact Below.refl _ _
    · exact Lib.bytesWorld_below _ _ _
  · have hr : Lib.atoiOr s.data.toList (-1) = (-1) := by simp only [Lib.atoiOr, h]
    rw [hr]
    go_enter func117, Tryz.ntmps117
    go_wp2_with (go_at_call 132; refine (Any.strconv_Atoi_syntax layAtoi s hlim h ev0 _ ?_ he0).mono ?_)
    · exact hv0
    rintro e W1 ⟨N, rfl, -, -, hb⟩
    go_wp2
    go_ret
    exact ⟨rfl, hb⟩
  · have hr : Lib.atoiOr s.data.toList (-1) = (-1) := by simp only [Lib.atoiOr, h]
    rw [hr]
    go_enter func117, Tryz.ntmps117
    go_wp2_with (go_at_call 132; refine (Any.strconv_Atoi_range layAtoi s hlim h ev1 _ ?_ he1).mono ?_)
    · exact hv1
    rintro e W1 ⟨N, rfl, -, -, hb⟩
    go_wp2
    go_ret
    exact ⟨rfl, hb⟩
/-- The variables that strconv's errors are made from hold values of an interface's type. -/
def ErrV (w : World) : Prop := ∃ ev0 ev1, w.cell? ⟨(layAtoi_ren.g 15), 0, none⟩ = some ev0 ∧ (ev0 = .nilIface ∨ ∃ te pe, ev0 = .iface te pe) ∧ w.cell? ⟨(layAtoi_ren.g 16), 0, none⟩ = some ev1 ∧ (ev1 = .nilIface ∨ ∃ te pe, ev1 = .iface te pe)
theorem cell_ext {w w' : World} (u : Ext w w') {b o : Nat} {v : Value} (h : w.cell? ⟨b, o, none⟩ = some v) : w'.cell? ⟨b, o, none⟩ = some v := by
  have hlt := Lib.lt_of_cell h
  rw [World.cell?_of_block (u.block _ hlt id)]; exact h
theorem ErrV.ext {w w' : World} (h : ErrV w) (u : Ext w w') : ErrV w' := by
  obtain ⟨ev0, ev1, h0, e0, h1, e1⟩ := h
  exact ⟨ev0, ev1, cell_ext u h0, e0, cell_ext u h1, e1⟩
theorem numb_c (s : List UInt8) (w0 : World) (hl : s.length ≤ 1000000000) (hE : ErrV w0) : CallsV Tryz.prog 117 [.string (strB s)] w0 fun v w' => v = .int .i64 (numP s) ∧ Ext w0 w' := by
  obtain ⟨ev0, ev1, h0, e0, h1, e1⟩ := hE
  refine Calls.mono (numbS (strB s) (by rw [strB_size]; omega) ev0 ev1 w0 h0 e0 h1 e1) ?_
  rintro e w' ⟨rfl, hb⟩
  exact ⟨_, rfl, by rw [strB_data]; rfl, Below.ext hb⟩
theorem ixb10_c (s : List UInt8) (w0 : World) : CallsV Tryz.prog 173 [.string (strB s), .int .u8 10] w0 fun v w' => v = .int .i64 (Lib.indexByte s 10) ∧ Ext w0 w' := ixb_c s 10 w0

theorem sixb_c (s : List UInt8) (w0 : World) :
    CallsV Tryz.prog 156 [.string (strB s), .int .u8 10] w0 (fun v w' => v = .int .i64 (Lib.indexByte s 10) ∧ Ext w0 w') := by
 refine f_n func156 ?_
 refine go ?_
 refine x_c func173 rfl rfl (ixb10_c s _) ?_
 rintro _ w4 ⟨rfl, u5⟩ zu5
 refine go ?_
 refine f_1 results156 ?_
 exact ⟨rfl, u_d⟩

theorem split_c (s : List UInt8) (c : UInt8) (w0 : World) (hsl : s.length ≤ 900000) :
    CallsV Tryz.prog 157 [.string (strB s), .string (strB ([c]))] w0 (fun v w' => (∃ a9 g9 c9, v = .slice a9 (List.length (pcs c s)) c9 ∧ Acc encStr 1 9 w0.heap.size w' a9 g9 c9 (pcs c s)) ∧ Ext w0 w') := by
 refine f_n func157 ?_
 refine go ?_
 refine x_c func174 rfl rfl (genSplit_c s c _ (by omega)) ?_
 rintro _ w4 ⟨⟨bg, rfl, hgB, hbg⟩, u5⟩ zu5
 have hacg := Acc.ofBlk (base := w0.heap.size) (xs := pcs c s) encStr 1 (fun _ => rfl) hbg (by omega) (by have h9 := pcs_len c s; omega)
 refine go ?_
 refine f_1 results157 ?_
 exact ⟨⟨_, _, _, rfl, hacg⟩, u_d⟩

theorem Lines_c (s : List UInt8) (w0 : World) :
    CallsV Tryz.prog 123 [.string (strB s)] w0 (fun v w' => (∃ b1, v = .func (.func 155) #[] #[.pointer (some ⟨b1, 0, none⟩)] ∧ w0.heap.size ≤ b1 ∧ Blk w' b1 9 [.string (strB s)]) ∧ Ext w0 w') := by
 refine f_n func123 ?_
 refine go ?_
 refine x_b fun bk2 w3 ebk2 sbk2 B4 u5 => ?_
 refine go ?_
 refine t_mkfunc (vs := []) (us := [.pointer (some ⟨bk2, 0, none⟩)]) rfl rfl rfl rfl ?_
 refine go ?_
 refine f_1 results123 ?_
 exact ⟨⟨bk2, rfl, by omega, B4⟩, u_d⟩

end Go.Proofs.YtjdcpnaocjddoaaGreatDoor
namespace Go.Proofs.YtjdcpnaocjddoaaGreatDoor
open Go Go.RowKit Go.Proofs.Tryz
theorem own155 : Own Tryz.prog 155 := ⟨Tryz.f155, func155, by kernel_rfl, by kernel_rfl⟩

set_option maxHeartbeats 4000000 in
set_option maxRecDepth 20000 in
theorem lines1_c (s : List UInt8) (b1 : Nat) (ly D : Nat) (T : Nat → Prop) (C : List (List UInt8) → World → Prop) (Cf : List (List UInt8) × List UInt8 → World → Prop) (R Rf : World → Prop) (w0 : World) (hC : ∀ pre W W', C pre W → Upd (fun i => i = b1) W W' → C pre W') (hH : HandsL Tryz.prog ly D encStX (YSt (lnsP s) D C) (ZSt T C) (FSt T Cf) R Rf) (_hly : ly = D + 1) (hD : D + 1 < w0.heap.size) (hR0 : R w0) (hC0 : C [] w0) (h1 : Blk w0 b1 9 [.string (strB s)]) (hsl : s.length ≤ 1000000) (hend : s ≠ [] → nth s (s.length - 1) = 10) (hT1 : ¬ T b1) :
    CallsV Tryz.prog 155 [.func (.yield ly) #[] #[], .pointer (some ⟨b1, 0, none⟩)] w0 (fun _ w' => ((C (lnsP s) w' ∧ R w') ∨ (EndS (lnsP s) Cf w' ∧ Rf w')) ∧ Upd (fun i => T i ∨ i = b1) w0 w') := by
 have hnb := hH.cell hR0 h1
 have hR : ∀ (_ _ : Unit) W W', R W → Upd (fun i => i = b1) W W' → R W' := fun _ _ W W' h u => hH.keep h u (fun e => hnb.1 e.symm) (fun e => hnb.2 e.symm)
 have hb1l := h1.lt
 have Y0 := Sc.mk (Upd.refl (fun i => T i ∨ i = b1) w0)
 refine f_n func155 ?_
 refine go ?_
 refine x_l2 (fun i => T i ∨ i = b1) [0, 1] (fun (p : List (List UInt8)) (r : List UInt8) => []) (fun p r w => Blk w b1 9 [.string (strB r)] ∧ (LnI s p r) ∧ (C p w) ∧ (R w)) (fun p r => r.length) ([]) s ⟨h1, (LnI.nil hend), hC0, hR0⟩ ?_
 rintro p r w2 ⟨I4, hI, hCk, hRk⟩ u3 zu3 K1 hK1
 have Y5 := Sc.mk (Y0.u.next u3 (fun i hi (h : T i ∨ i = b1) => show T i ∨ i = b1 by first | omega | assumption | exact Or.inl h))
 have hrl := hI.len
 refine go ?_
 refine t_lenS underlying9 rfl rfl rfl rfl ?_
 refine go ?_
 refine q_p (fun g7 => ?_) fun g7 => ?_
 ·
  refine go ?_
  refine x_c func156 rfl rfl (sixb_c r _) ?_
  rintro _ w12 ⟨rfl, u13⟩ zu13
  have Y15 := Sc.mk (Y5.u.nx u13)
  refine go ?_
  refine q_p (fun g11 => ?_) fun g11 => ?_
  ·
   obtain ⟨i, hi⟩ : ∃ i : Nat, Lib.indexByte r 10 = (i : Int) := ⟨_, (Int.toNat_of_nonneg g11).symm⟩
   obtain ⟨hil, _, _⟩ := pcs_hit hi
   have hmem := hI.mem hi
   refine c_same 4 (v := .int .i64 (i : Int)) rfl (by rw [hi]) (c_drawnM follows (fun i => i = b1) (.look 1 (.look 2 (.look 5 (.look 6 (.act 0 (.look 3 (.look 8 (.act 4 (.look 7 (.act 9 .done .stop)) .stop))) (.act 4 (.look 7 (.act 0 (.look 3 (.look 8 (.act 9 .done .stop))) .stop)) .stop)))))) (by kernel_rfl) fun w17 u18 => ?_)
   have zu18 := u18.size
   have Y19 := Sc.mk (Y15.u.nx u18)
   refine go ?_
   refine s_or ?_ ?_
   ·
    refine go ?_
    refine y_subS 0 (i + 1) underlying9 rfl rfl rfl (.inr ⟨rfl, rfl⟩) (k := .i64) (m := 0) (x1 := .tmp 0) (.inl ⟨rfl, rfl, by first | rfl | omega⟩) (by omega) (by omega) (y_same 15 (v := .string (strB (r.take (i + 1)))) rfl (congrArg (fun z => Value.string (strB z)) (by rw [List.drop_zero, Nat.sub_zero])) ?_)
    refine go ?_
    refine y_subS (i + 1) r.length underlying9 rfl rfl rfl (.inl ⟨rfl, rfl, by first | rfl | omega⟩) (.inr ⟨rfl, rfl⟩) (k' := .i64) (n := 0) (x2 := .tmp 0) (by omega) (by omega) (y_same 19 (v := .string (strB (r.drop (i + 1)))) rfl (congrArg (fun z => Value.string (strB z)) (List.take_of_length_le (by rw [List.length_drop]; exact Nat.le_refl _))) ?_)
    refine go ?_
    refine x_s fun w20 sw20 B22 u21 => ?_
    have Y23 := Sc.mk (Y19.u.next u21 (fun i hi (h : i = b1) => show T i ∨ i = b1 by first | omega | assumption | exact Or.inl h))
    refine go ?_
    refine t_yield (vs := [.string (strB (r.take (i + 1)))]) rfl rfl rfl rfl (hH.hand ⟨p, (r.take (i + 1)), w20⟩ _ ⟨(hC _ _ _ hCk ((((Upd.refl (fun i => i = b1) _).nx u13).nx u18).next u21 (fun i hi (h : i = b1) => show i = b1 by first | omega | assumption))), ⟨hmem, by omega⟩, Upd.refl _ _⟩ (hR () () _ _ hRk ((((Upd.refl (fun i => i = b1) _).nx u13).nx u18).next u21 (fun i hi (h : i = b1) => show i = b1 by first | omega | assumption)))) (by rintro e w' (⟨rfl, _⟩ | ⟨rfl, _⟩) <;> exact ⟨_, rfl⟩) (fun v25 w26 r27 => ?_)
    rcases r27 with ⟨hvr27, hrr27⟩ | ⟨hvr27, hrr27⟩ <;> injection hvr27 with hvr27 <;> subst hvr27
    ·
     obtain ⟨⟨hzC, u28⟩, hzR⟩ := hrr27
     have zu28 := u28.size
     have Y29 := Sc.mk (Y23.u.next u28 (fun i hi (h : T i) => show T i ∨ i = b1 by first | omega | assumption | exact Or.inl h))
     refine go ?_
     have B30 := (B22.keep u28 (show ¬ (T b1) by first | omega | assumption))
     exact hK1 (p ++ [r.take (i + 1)]) (r.drop (i + 1)) ⟨B30, (hI.next hi), hzC, hzR⟩ (hm := (by show (r.drop (i + 1)).length < r.length; rw [List.length_drop]; omega)) (hu := ((((u3.nx u13).nx u18).next u21 (fun i hi (h : i = b1) => show T i ∨ i = b1 by first | omega | assumption | exact Or.inl h)).next u28 (fun i hi (h : T i) => show T i ∨ i = b1 by first | omega | assumption | exact Or.inl h)))
    obtain ⟨⟨hzF, u28⟩, hzR⟩ := hrr27
    have zu28 := u28.size
    have Y31 := Sc.mk (Y23.u.next u28 (fun i hi (h : T i) => show T i ∨ i = b1 by first | omega | assumption | exact Or.inl h))
    refine go ?_
    refine f_ret0 results155 ?_
    obtain ⟨q9, hq9⟩ := hmem
    exact ⟨.inr ⟨⟨_, _, q9, hq9, hzF⟩, hzR⟩, Y31.u⟩
   refine go ?_
   refine y_subS (i + 1) r.length underlying9 rfl rfl rfl (.inl ⟨rfl, rfl, by first | rfl | omega⟩) (.inr ⟨rfl, rfl⟩) (k' := .i64) (n := 0) (x2 := .tmp 0) (by omega) (by omega) (y_same 19 (v := .string (strB (r.drop (i + 1)))) rfl (congrArg (fun z => Value.string (strB z)) (List.take_of_length_le (by rw [List.length_drop]; exact Nat.le_refl _))) ?_)
   refine go ?_
   refine y_subS 0 (i + 1) underlying9 rfl rfl rfl (.inr ⟨rfl, rfl⟩) (k := .i64) (m := 0) (x1 := .tmp 0) (.inl ⟨rfl, rfl, by first | rfl | omega⟩) (by omega) (by omega) (y_same 15 (v := .string (strB (r.take (i + 1)))) rfl (congrArg (fun z => Value.string (strB z)) (by rw [List.drop_zero, Nat.sub_zero])) ?_)
   refine go ?_
   refine x_s fun w32 sw32 B34 u33 => ?_
   have Y35 := Sc.mk (Y19.u.next u33 (fun i hi (h : i = b1) => show T i ∨ i = b1 by first | omega | assumption | exact Or.inl h))
   refine go ?_
   refine t_yield (vs := [.string (strB (r.take (i + 1)))]) rfl rfl rfl rfl (hH.hand ⟨p, (r.take (i + 1)), w32⟩ _ ⟨(hC _ _ _ hCk ((((Upd.refl (fun i => i = b1) _).nx u13).nx u18).next u33 (fun i hi (h : i = b1) => show i = b1 by first | omega | assumption))), ⟨hmem, by omega⟩, Upd.refl _ _⟩ (hR () () _ _ hRk ((((Upd.refl (fun i => i = b1) _).nx u13).nx u18).next u33 (fun i hi (h : i = b1) => show i = b1 by first | omega | assumption)))) (by rintro e w' (⟨rfl, _⟩ | ⟨rfl, _⟩) <;> exact ⟨_, rfl⟩) (fun v37 w38 r39 => ?_)
   rcases r39 with ⟨hvr39, hrr39⟩ | ⟨hvr39, hrr39⟩ <;> injection hvr39 with hvr39 <;> subst hvr39
   ·
    obtain ⟨⟨hzC, u40⟩, hzR⟩ := hrr39
    have zu40 := u40.size
    have Y41 := Sc.mk (Y35.u.next u40 (fun i hi (h : T i) => show T i ∨ i = b1 by first | omega | assumption | exact Or.inl h))
    refine go ?_
    have B42 := (B34.keep u40 (show ¬ (T b1) by first | omega | assumption))
    exact hK1 (p ++ [r.take (i + 1)]) (r.drop (i + 1)) ⟨B42, (hI.next hi), hzC, hzR⟩ (hm := (by show (r.drop (i + 1)).length < r.length; rw [List.length_drop]; omega)) (hu := ((((u3.nx u13).nx u18).next u33 (fun i hi (h : i = b1) => show T i ∨ i = b1 by first | omega | assumption | exact Or.inl h)).next u40 (fun i hi (h : T i) => show T i ∨ i = b1 by first | omega | assumption | exact Or.inl h)))
   obtain ⟨⟨hzF, u40⟩, hzR⟩ := hrr39
   have zu40 := u40.size
   have Y43 := Sc.mk (Y35.u.next u40 (fun i hi (h : T i) => show T i ∨ i = b1 by first | omega | assumption | exact Or.inl h))
   refine go ?_
   refine f_ret0 results155 ?_
   obtain ⟨q9, hq9⟩ := hmem
   exact ⟨.inr ⟨⟨_, _, q9, hq9, hzF⟩, hzR⟩, Y43.u⟩
  exact absurd (hI.has (by omega)) g11
 refine go ?_
 refine f_ret0 results155 ?_
 exact ⟨.inl ⟨by rw [hI.end_ (by omega)]; exact hCk, hRk⟩, Y5.u⟩

end Go.Proofs.YtjdcpnaocjddoaaGreatDoor
namespace Go.Proofs.YtjdcpnaocjddoaaGreatDoor
open Go Go.RowKit Go.Proofs.Tryz
theorem ResM.agg {P : Program} {ds : List Deferred} {w : World} {L : Slots} {s t b base n : Nat} {t' : TypeId} {cs : List Value} (hm : Marks base ds w) (hl : look s L = some (.pointer (some ⟨b, 0, none⟩))) (ha : ∀ w, (isAgg t).run P w = .ok true w) (hs : ∀ w, (sizeOf t).run P w = .ok n w) (hn : cs.length = n) (hb : Blk w b t' cs) : ResM P ds w L (.cell s t) (.agg cs.toArray) :=
  fun _w' u => ⟨b, 0, hl, run_loadVarN ha hs hn (hb.keep u (hm.notBlk hb)).at⟩
/-- What the reader's variable holds when these seals have come. -/
def BrdC (b0 b2 : Nat) (n c t f o : Int) (wR : World) (pre : List (List UInt8)) (W : World) : Prop :=
  Upd (fun i => i = b0 ∨ i = b2 ∨ wR.heap.size + 1 ≤ i) wR W ∧ ∃ ao g cp, Blk W b0 71 [.int .i64 n, .int .i64 c, .int .i64 t, .int .i64 f, .int .i64 o, .slice ao (pre.map numP).length cp] ∧ Acc encI 1 3 (wR.heap.size + 2) W ao g cp (pre.map numP)
theorem BrdC.upd {b0 b2 : Nat} {n c t f o : Int} {wR : World} (hne : b0 ≠ b2) (hlt : b2 < wR.heap.size) (pre : List (List UInt8)) (W W' : World) (h : BrdC b0 b2 n c t f o wR pre W) (u : Upd (fun i => i = b2) W W') : BrdC b0 b2 n c t f o wR pre W' := by
  obtain ⟨h1, ao, g, cp, h2, h3⟩ := h
  exact ⟨h1.trans (u.mono fun i e => .inr (.inl e)), ao, g, cp, h2.keep u hne, h3.keep u (fun hb e => by omega)⟩
theorem BrdC.ext {b0 b2 : Nat} {n c t f o : Int} {wR : World} (pre : List (List UInt8)) (W W' : World) (h : BrdC b0 b2 n c t f o wR pre W) (u : Ext W W') : BrdC b0 b2 n c t f o wR pre W' := by
  obtain ⟨h1, ao, g, cp, h2, h3⟩ := h
  exact ⟨h1.nx u, ao, g, cp, h2.kx u, h3.keep u (fun _ h => h)⟩
theorem BrdC.turned {b0 b2 : Nat} {n c t f o : Int} {wR : World} : Turned (wR.heap.size + 1) (BrdC b0 b2 n c t f o wR) := fun pre W W' h hl u => by
  obtain ⟨h1, ao, g, cp, h2, h3⟩ := h
  exact ⟨h1.trans (u.mono fun i e => .inr (.inr (by subst e; exact Nat.le_refl _))), ao, g, cp, h2.keep u (h2.notLoop hl), h3.keep u (fun hb e => by omega)⟩
theorem pcs_items : ∀ (c : UInt8) (s : List UInt8), ∀ w ∈ pcs c s, w.length ≤ s.length
  | _, [], w, hw => by
    rw [List.mem_singleton.1 (show w ∈ [[]] from hw)]; exact Nat.le_refl _
  | c, x :: r, w, hw => by
    have ih := pcs_items c r
    have hne := pcs_ne c r
    unfold pcs at hw
    cases hp : pcs c r with
    | nil => exact absurd hp hne
    | cons y t =>
      rw [hp] at ih
      split at hw
      · rcases List.mem_cons.1 hw with rfl | hw
        · exact Nat.zero_le _
        · rw [hp] at hw
          have := ih w hw
          rw [List.length_cons]; omega
      · rw [hp] at hw
        rcases List.mem_cons.1 hw with rfl | hw
        · have := ih y (List.mem_cons_self ..)
          show (y.length + 1) ≤ r.length + 1
          omega
        · have := ih w (List.mem_cons_of_mem _ hw)
          rw [List.length_cons]; omega
end Go.Proofs.YtjdcpnaocjddoaaGreatDoor
namespace Go.Proofs.YtjdcpnaocjddoaaGreatDoor
open Go Go.RowKit
/-! ### gauge lines -/
structure Gau where
  st : Int
  hr : Int
  s : List Int
  ao : Option Addr
  g : Nat
  ob : Nat
  cp : Nat
instance : Inhabited Gau := ⟨⟨0, 0, [], none, 0, 0, 0⟩⟩
def encGau (x : Gau) : List Value := [.int .i64 x.st, .int .i64 x.hr, .slice x.ao x.s.length x.cp]
def okGau (x : Gau) : Bool := decide ((0 ≤ x.st ∧ x.st ≤ 99) ∧ (0 ≤ x.hr ∧ x.hr ≤ 100000) ∧ (1 ≤ x.s.length ∧ x.s.length ≤ 24) ∧ ∀ n ∈ x.s, 0 ≤ n ∧ n ≤ 10000)
theorem okGau_iff {x : Gau} (h : okGau x = true) : (0 ≤ x.st ∧ x.st ≤ 99) ∧ (0 ≤ x.hr ∧ x.hr ≤ 100000) ∧ (1 ≤ x.s.length ∧ x.s.length ≤ 24) ∧ ∀ n ∈ x.s, 0 ≤ n ∧ n ≤ 10000 := of_decide_eq_true h
def aftG (a b : Gau) : Prop := a.st < b.st ∨ (b.st = a.st ∧ a.hr + (a.s.length : Int) ≤ b.hr)
instance (a b : Gau) : Decidable (aftG a b) := by unfold aftG; infer_instance
def dW (d : Int) : List UInt8 := if d < 0 then Lib.itoa d else 43 :: Lib.itoa d
def difG : Int → List Int → List (List UInt8)
  | _, [] => []
  | a, b :: r => dW (b - a) :: difG b r
def wrdG (x : Gau) : List (List UInt8) := [Lib.itoa x.st, Lib.itoa x.hr, Lib.itoa (nth x.s 0)] ++ difG (nth x.s 0) (x.s.drop 1)
def gauP (x : Gau) : List UInt8 := sealedP (wrdG x)
def Gau.bare (x : Gau) : Gau := ⟨x.st, x.hr, x.s, none, 0, 0, 0⟩
def gau0 : Gau := ⟨0, 0, [], none, 0, 0, 0⟩
theorem okGau_bare (x : Gau) : okGau x.bare = okGau x := rfl
theorem gauP_bare (x : Gau) : gauP x.bare = gauP x := rfl
theorem difG_take : ∀ (l : List Int) (a : Int) (i : Nat), i < l.length → difG a (l.take (i + 1)) = difG a (l.take i) ++ [dW (nth l i - nth (a :: l) i)]
  | [], _, _, h => absurd h (Nat.not_lt_zero _)
  | x :: r, a, 0, _ => rfl
  | x :: r, a, i + 1, h => by
    have ih := difG_take r x i (by simpa using h)
    show dW (x - a) :: difG x (r.take (i + 1)) = dW (x - a) :: (difG x (r.take i) ++ [dW (nth r i - nth (x :: r) i)])
    rw [ih]
theorem nth_cons_drop {l : List Int} (h : 0 < l.length) (i : Nat) : nth (nth l 0 :: l.drop 1) i = nth l i := by
  cases l with
  | nil => cases h
  | cons a r => rfl
theorem difG_next {l : List Int} {i : Nat} (h : i + 1 < l.length) : difG (nth l 0) ((l.drop 1).take (i + 1)) = difG (nth l 0) ((l.drop 1).take i) ++ [dW (nth l (i + 1) - nth l i)] := by
  rw [difG_take _ _ _ (by rw [List.length_drop]; omega), nth_cons_drop (by omega), nth_drop, Nat.add_comm 1 i]
theorem difG_len : ∀ (l : List Int) (a : Int), (difG a l).length = l.length
  | [], _ => rfl
  | x :: r, a => by show (difG x r).length + 1 = r.length + 1; rw [difG_len r x]
/-! numbers with a sign -/
theorem decNat_dec (n : Nat) : Lib.decNat (Lib.decDigits n) = some n := by
  have hp := decD_pos n
  unfold Lib.decNat
  rw [if_neg (fun e => by rw [List.isEmpty_iff] at e; rw [e] at hp; cases hp), decFrom_dec]
theorem atoi_dec {n : Nat} (h : n < 1000000) : Lib.atoiAll (Lib.decDigits n) = .ok (n : Int) := by
  have hl := decD_len 5 n h
  have hd := decD_dg n
  have hn := decNat_dec n
  rw [Lib.atoiAll_short _ (by omega)]
  cases he : Lib.decDigits n with
  | nil => have := decD_pos n; rw [he] at this; cases this
  | cons c r =>
    rw [he] at hn hd
    have hc := isDg_iff.1 (hd c (List.mem_cons_self ..))
    have e1 : ¬ (c == 45) = true := fun e => by rw [beq_iff_eq.1 e] at hc; exact absurd hc (by decide)
    have e2 : ¬ (c == 43) = true := fun e => by rw [beq_iff_eq.1 e] at hc; exact absurd hc (by decide)
    have ea : Lib.atoi (c :: r) = some (n : Int) := by
      show (if (c == 45) = true then _ else if (c == 43) = true then _ else (Lib.decNat (c :: r)).map fun (m : Nat) => (m : Int)) = _
      rw [if_neg e1, if_neg e2, hn]; rfl
    rw [ea]; rfl
theorem itoa_minus {d : Int} (h : d < 0) : Lib.itoa d = 45 :: Lib.decDigits (-d).toNat := by
  have h1 := Lib.itoa_neg (-d).toNat (by omega)
  rw [Int.toNat_of_nonneg (by omega), Int.neg_neg] at h1; exact h1
theorem atoi_dW {d : Int} (h : -10000 ≤ d ∧ d ≤ 10000) : Lib.atoiAll (dW d) = .ok d := by
  unfold dW
  by_cases q : d < 0
  · rw [if_pos q, itoa_minus q]
    have hl := decD_len 5 (-d).toNat (by omega)
    rw [Lib.atoiAll_short _ (by rw [List.length_cons]; omega)]
    have ea : Lib.atoi (45 :: Lib.decDigits (-d).toNat) = some d := by
      show (if ((45 : UInt8) == 45) = true then ((Lib.decNat (Lib.decDigits (-d).toNat)).map fun (m : Nat) => -(m : Int)) else if ((45 : UInt8) == 43) = true then ((Lib.decNat (Lib.decDigits (-d).toNat)).map fun (m : Nat) => (m : Int)) else ((Lib.decNat (45 :: Lib.decDigits (-d).toNat)).map fun (m : Nat) => (m : Int))) = _
      rw [if_pos (by decide), decNat_dec]
      show some (-(((-d).toNat : Nat) : Int)) = _
      rw [Int.toNat_of_nonneg (by omega), Int.neg_neg]
    rw [ea]; rfl
  · rw [if_neg q, itoa_dec (by omega)]
    have hl := decD_len 5 d.toNat (by omega)
    rw [Lib.atoiAll_short _ (by rw [List.length_cons]; omega)]
    have ea : Lib.atoi (43 :: Lib.decDigits d.toNat) = some d := by
      show (if ((43 : UInt8) == 45) = true then ((Lib.decNat (Lib.decDigits d.toNat)).map fun (m : Nat) => -(m : Int)) else if ((43 : UInt8) == 43) = true then ((Lib.decNat (Lib.decDigits d.toNat)).map fun (m : Nat) => (m : Int)) else ((Lib.decNat (43 :: Lib.decDigits d.toNat)).map fun (m : Nat) => (m : Int))) = _
      rw [if_neg (by decide), if_pos (by decide), decNat_dec]
      show some (((d.toNat : Nat) : Int)) = _
      rw [Int.toNat_of_nonneg (by omega)]
    rw [ea]; rfl
/-- the program's levels of words -/
def lvA : List Int → Int → List (List UInt8) → Option (List Int)
  | acc, _, [] => some acc
  | acc, v, w :: r => match Lib.atoiAll w with
    | .ok d => if 0 ≤ v + d ∧ v + d ≤ 10000 then lvA (acc ++ [v + d]) (v + d) r else none
    | _ => none
theorem lvA_ok {acc : List Int} {v d : Int} {w : List UInt8} {r : List (List UInt8)} (h : Lib.atoiAll w = .ok d) (h2 : 0 ≤ v + d ∧ v + d ≤ 10000) : lvA acc v (w :: r) = lvA (acc ++ [v + d]) (v + d) r := by
  conv => lhs; unfold lvA
  rw [h]
  show (if _ then _ else _) = _
  rw [if_pos h2]
theorem lvA_out {acc : List Int} {v d : Int} {w : List UInt8} {r : List (List UInt8)} (h : Lib.atoiAll w = .ok d) (h2 : ¬ (0 ≤ v + d ∧ v + d ≤ 10000)) : lvA acc v (w :: r) = none := by
  unfold lvA
  rw [h]
  show (if _ then _ else _) = _
  rw [if_neg h2]
theorem lvA_bad {acc : List Int} {v : Int} {w : List UInt8} {r : List (List UInt8)} (h : ∀ d, Lib.atoiAll w ≠ .ok d) : lvA acc v (w :: r) = none := by
  unfold lvA
  split
  · rename_i d hd; exact absurd hd (h d)
  · rfl
def parGW (ws : List (List UInt8)) : Gau := if ws.length < 3 ∨ 26 < ws.length then gau0 else match lvA [] 0 (ws.drop 2) with
  | some l => ⟨numP (nth ws 0), numP (nth ws 1), l, none, 0, 0, 0⟩
  | none => gau0
def parGL (s : List UInt8) : Gau := parGW (pcs 32 s).dropLast
theorem parGW_some {ws : List (List UInt8)} {l : List Int} (h : ¬ (ws.length < 3 ∨ 26 < ws.length)) (h2 : lvA [] 0 (ws.drop 2) = some l) : parGW ws = ⟨numP (nth ws 0), numP (nth ws 1), l, none, 0, 0, 0⟩ := by unfold parGW; rw [if_neg h, h2]
theorem parGW_none {ws : List (List UInt8)} (h : ¬ (ws.length < 3 ∨ 26 < ws.length)) (h2 : lvA [] 0 (ws.drop 2) = none) : parGW ws = gau0 := by unfold parGW; rw [if_neg h, h2]
theorem lvA_dif : ∀ (r : List Int) (acc : List Int) (a : Int), (0 ≤ a ∧ a ≤ 10000) → (∀ n ∈ r, 0 ≤ n ∧ n ≤ 10000) → lvA acc a (difG a r) = some (acc ++ r)
  | [], acc, a, _, _ => by show some acc = _; rw [List.append_nil]
  | b :: r, acc, a, ha, hr => by
    have hb := hr b (List.mem_cons_self ..)
    have e : a + (b - a) = b := by omega
    show lvA acc a (dW (b - a) :: difG b r) = _
    rw [lvA_ok (atoi_dW (d := b - a) (by omega)) (by omega), e, lvA_dif r (acc ++ [b]) b hb (fun n hn => hr n (List.mem_cons_of_mem _ hn)), List.append_assoc]; rfl
/-- the reference's levels of words -/
def stR (w : List UInt8) : Int := (if nth w 0 = 45 then -1 else 1) * digV 6 0 (w.drop 1)
def stepR (p : List Int × Int) (w : List UInt8) : List Int × Int := (p.1 ++ [p.2 + (if p.1 = [] then digV 6 0 w else stR w)], p.2 + (if p.1 = [] then digV 6 0 w else stR w))
def lvF (ws : List (List UInt8)) : List Int × Int := (ws.drop 2).foldl stepR ([], 0)
def parGR (s : List UInt8) : Gau := ⟨digV 6 0 (nth (pcs 32 s).dropLast 0), digV 6 0 (nth (pcs 32 s).dropLast 1), (lvF (pcs 32 s).dropLast).1, none, 0, 0, 0⟩
theorem stR_dW {d : Int} (h : -10000 ≤ d ∧ d ≤ 10000) : stR (dW d) = d := by
  unfold dW stR
  by_cases q : d < 0
  · rw [if_pos q, itoa_minus q]
    show (if (45 : UInt8) = 45 then (-1 : Int) else 1) * digV 6 0 (Lib.decDigits (-d).toNat) = d
    rw [if_pos rfl, dig_dec0 (by omega), Int.toNat_of_nonneg (by omega)]; omega
  · rw [if_neg q, itoa_dec (by omega)]
    show (if (43 : UInt8) = 45 then (-1 : Int) else 1) * digV 6 0 (Lib.decDigits d.toNat) = d
    rw [if_neg (by decide), dig_dec0 (by omega), Int.toNat_of_nonneg (by omega)]; omega
theorem stepR_dif : ∀ (r : List Int) (acc : List Int) (a : Int), acc ≠ [] → (0 ≤ a ∧ a ≤ 10000) → (∀ n ∈ r, 0 ≤ n ∧ n ≤ 10000) → ((difG a r).foldl stepR (acc, a)).1 = acc ++ r
  | [], acc, a, _, _, _ => by show acc = _; rw [List.append_nil]
  | b :: r, acc, a, hn, ha, hr => by
    have hb := hr b (List.mem_cons_self ..)
    have e : stepR (acc, a) (dW (b - a)) = (acc ++ [b], b) := by
      unfold stepR
      rw [if_neg hn, stR_dW (by omega), show a + (b - a) = b by omega]
    show ((difG b r).foldl stepR (stepR (acc, a) (dW (b - a)))).1 = _
    rw [e, stepR_dif r (acc ++ [b]) b (by simp) hb (fun n hn => hr n (List.mem_cons_of_mem _ hn)), List.append_assoc]; rfl
/-! round trips -/
theorem itoa_free {n : Int} (h : 0 ≤ n) : (32 : UInt8) ∉ Lib.itoa n := by rw [itoa_dec h]; exact decD_free (by decide)
theorem dW_free (d : Int) : (32 : UInt8) ∉ dW d := by
  unfold dW
  by_cases q : d < 0
  · rw [if_pos q, itoa_minus q]
    intro h
    rcases List.mem_cons.1 h with h | h
    · exact absurd h (by decide)
    · exact decD_free (by decide) h
  · rw [if_neg q, itoa_dec (by omega)]
    intro h
    rcases List.mem_cons.1 h with h | h
    · exact absurd h (by decide)
    · exact decD_free (by decide) h
theorem difG_free : ∀ (r : List Int) (a : Int), ∀ w ∈ difG a r, (32 : UInt8) ∉ w
  | [], _, w, h => by cases h
  | b :: r, a, w, h => by
    rcases List.mem_cons.1 (show w ∈ dW (b - a) :: difG b r from h) with h | h
    · rw [h]; exact dW_free _
    · exact difG_free r b w h
theorem wrdG_free {x : Gau} (h : okGau x = true) : ∀ w ∈ wrdG x, (32 : UInt8) ∉ w := by
  obtain ⟨h1, h2, ⟨h3, h4⟩, h5⟩ := okGau_iff h
  have h0 := h5 _ (nth_mem (xs := x.s) (i := 0) (by omega))
  intro w hw
  unfold wrdG at hw
  rcases List.mem_append.1 hw with hw | hw
  · rcases List.mem_cons.1 hw with hw | hw
    · rw [hw]; exact itoa_free h1.1
    rcases List.mem_cons.1 hw with hw | hw
    · rw [hw]; exact itoa_free h2.1
    · rw [List.mem_singleton.1 hw]; exact itoa_free h0.1
  · exact difG_free _ _ w hw
theorem lineG_words {x : Gau} {s : List UInt8} (h : okGau x = true) (hb : gauP x = s ++ [10]) : (pcs 32 s).dropLast = wrdG x := by
  have e : sealP (Lib.join (wrdG x) [32] ++ [32]) = s ++ [10] := hb
  obtain ⟨a, b, ha, hb, hs⟩ := sealP_cut e
  have hj : s = Lib.join (wrdG x ++ [[a, b]]) [32] := by
    rw [join_snoc _ _ _ (by simp [wrdG])]; exact hs
  have hp : pcs 32 s = wrdG x ++ [[a, b]] := by
    rw [hj]
    refine pcs_join 32 _ (by simp) fun w hw => ?_
    rcases List.mem_append.1 hw with hw | hw
    · exact wrdG_free h w hw
    · rw [List.mem_singleton.1 hw]
      intro h9
      rcases List.mem_cons.1 h9 with h9 | h9
      · exact ha h9.symm
      · exact hb (List.mem_singleton.1 h9).symm
  rw [hp, List.dropLast_concat]
theorem lv_split {l : List Int} (h : 0 < l.length) : [nth l 0] ++ l.drop 1 = l := by
  cases l with
  | nil => cases h
  | cons a r => rfl
theorem parGL_line {x : Gau} {s : List UInt8} (h : okGau x = true) (hb : gauP x = s ++ [10]) : parGL s = x.bare := by
  obtain ⟨h1, h2, ⟨h3, h4⟩, h5⟩ := okGau_iff h
  have h0 := h5 _ (nth_mem (xs := x.s) (i := 0) (by omega))
  have hl : (wrdG x).length = x.s.length + 2 := by
    unfold wrdG
    rw [List.length_append, difG_len, List.length_drop]
    simp only [List.length_cons, List.length_nil]; omega
  have hd : (wrdG x).drop 2 = Lib.itoa (nth x.s 0) :: difG (nth x.s 0) (x.s.drop 1) := rfl
  have ha : Lib.atoiAll (Lib.itoa (nth x.s 0)) = .ok (nth x.s 0) := by
    have := atoi_dec (n := (nth x.s 0).toNat) (by omega)
    rw [Int.toNat_of_nonneg h0.1] at this
    rw [itoa_dec h0.1]; exact this
  have hv : lvA [] 0 ((wrdG x).drop 2) = some x.s := by
    rw [hd, lvA_ok ha (by omega), Int.zero_add, List.nil_append, lvA_dif _ _ _ h0 (fun n hn => h5 n (List.mem_of_mem_drop hn)), lv_split (by omega)]
  unfold parGL
  rw [lineG_words h hb, parGW_some (by rw [hl]; omega) hv]
  have e0 : nth (wrdG x) 0 = Lib.itoa x.st := rfl
  have e1 : nth (wrdG x) 1 = Lib.itoa x.hr := rfl
  rw [e0, e1, num_itoa (by omega), num_itoa (by omega)]; rfl
theorem parGR_line {x : Gau} {s : List UInt8} (h : okGau x = true) (hb : gauP x = s ++ [10]) : parGR s = x.bare := by
  obtain ⟨h1, h2, ⟨h3, h4⟩, h5⟩ := okGau_iff h
  have h0 := h5 _ (nth_mem (xs := x.s) (i := 0) (by omega))
  unfold parGR lvF
  rw [lineG_words h hb]
  have hd : (wrdG x).drop 2 = Lib.itoa (nth x.s 0) :: difG (nth x.s 0) (x.s.drop 1) := rfl
  have e0 : nth (wrdG x) 0 = Lib.itoa x.st := rfl
  have e1 : nth (wrdG x) 1 = Lib.itoa x.hr := rfl
  have es : stepR ([], 0) (Lib.itoa (nth x.s 0)) = ([nth x.s 0], nth x.s 0) := by
    unfold stepR
    rw [if_pos rfl, dig_itoa (by omega), Int.zero_add]; rfl
  rw [hd, e0, e1, List.foldl_cons, es, stepR_dif _ _ _ (by simp) h0 (fun n hn => h5 n (List.mem_of_mem_drop hn)), lv_split (by omega), dig_itoa (by omega), dig_itoa (by omega)]; rfl
/-! ### gauge files, read -/
def lineG (p : List UInt8 → Gau) (s : List UInt8) : Gau × Int := if chkdP s ≠ 0 then (gau0, chkdP s) else if okGau (p s) = true ∧ gauP (p s) = s ++ [10] then (p s, 0) else (gau0, 4)
def goG (L : List UInt8 → Gau × Int) : List Gau → List (List UInt8) → List Gau × Int × Int
  | acc, [] => (acc, 0, 0)
  | acc, s :: r => if (L s).2 ≠ 0 then ([], acc.length, (L s).2) else if 0 < acc.length ∧ ¬ aftG (nth acc (acc.length - 1)) (L s).1 then ([], acc.length, 6) else goG L (acc ++ [(L s).1]) r
def readG (L : List UInt8 → Gau × Int) (s : List UInt8) : List Gau × Int × Int := if (linesR s).2 ≠ 0 then ([], 0, (linesR s).2) else goG L [] (linesR s).1
theorem goG_bad {L : List UInt8 → Gau × Int} {acc : List Gau} {s : List UInt8} {r : List (List UInt8)} (h : (L s).2 ≠ 0) : goG L acc (s :: r) = ([], (acc.length : Int), (L s).2) := by
  show (if _ then _ else _) = _
  rw [if_pos h]
theorem goG_twice {L : List UInt8 → Gau × Int} {acc : List Gau} {s : List UInt8} {r : List (List UInt8)} (h : (L s).2 = 0) (h2 : 0 < acc.length ∧ ¬ aftG (nth acc (acc.length - 1)) (L s).1) : goG L acc (s :: r) = ([], (acc.length : Int), 6) := by
  show (if _ then _ else _) = _
  rw [if_neg (by rw [h]; decide), if_pos h2]
theorem goG_next {L : List UInt8 → Gau × Int} {acc : List Gau} {s : List UInt8} {r : List (List UInt8)} (h : (L s).2 = 0) (h2 : ¬ (0 < acc.length ∧ ¬ aftG (nth acc (acc.length - 1)) (L s).1)) : goG L acc (s :: r) = goG L (acc ++ [(L s).1]) r := by
  conv => lhs; unfold goG
  rw [if_neg (by rw [h]; decide), if_neg h2]
theorem parGW_bare (ws : List (List UInt8)) : (parGW ws).bare = parGW ws := by
  unfold parGW
  split
  · rfl
  · split <;> rfl
theorem lineG_same (s : List UInt8) : lineG parGL s = lineG parGR s := by
  unfold lineG
  split
  · rfl
  · by_cases h1 : okGau (parGL s) = true ∧ gauP (parGL s) = s ++ [10]
    · have e : parGR s = parGL s := by rw [parGR_line h1.1 h1.2]; exact parGW_bare _
      rw [if_pos h1, e, if_pos h1]
    · rw [if_neg h1]
      by_cases h2 : okGau (parGR s) = true ∧ gauP (parGR s) = s ++ [10]
      · have e : parGL s = parGR s := by rw [parGL_line h2.1 h2.2]; rfl
        rw [e] at h1
        exact absurd h2 h1
      · rw [if_neg h2]
theorem readG_same (s : List UInt8) : readG (lineG parGL) s = readG (lineG parGR) s := by
  rw [show lineG parGL = lineG parGR from funext lineG_same]
/-! ### gauge files, written -/
def aftO : Option Gau → Gau → Prop
  | none, _ => True
  | some q, x => aftG q x
instance (p : Option Gau) (x : Gau) : Decidable (aftO p x) := by cases p <;> unfold aftO <;> infer_instance
def chkGa : Option Gau → List Gau → Int
  | _, [] => 0
  | p, x :: r => if okGau x = true then (if aftO p x then chkGa (some x) r else 6) else 2
def prvG (l : List Gau) (i : Nat) : Option Gau := if i = 0 then none else some (nth l (i - 1))
def textG (l : List Gau) : List UInt8 × Int := if 200 < l.length then ([], 5) else if chkGa none l = 0 then (l.flatMap gauP, 0) else ([], chkGa none l)
theorem chkGa_ok {p : Option Gau} {x : Gau} {r : List Gau} (h1 : okGau x = true) (h2 : aftO p x) : chkGa p (x :: r) = chkGa (some x) r := by
  show (if okGau x = true then _ else _) = _
  rw [if_pos h1, if_pos h2]
theorem dW_len {d : Int} (h : -10000 ≤ d ∧ d ≤ 10000) : (dW d).length ≤ 7 := by
  unfold dW
  by_cases q : d < 0
  · have := decD_len 5 (-d).toNat (by omega)
    rw [if_pos q, itoa_minus q, List.length_cons]; omega
  · have := decD_len 5 d.toNat (by omega)
    rw [if_neg q, itoa_dec (by omega), List.length_cons]; omega
theorem difG_wlen : ∀ (r : List Int) (a : Int), (0 ≤ a ∧ a ≤ 10000) → (∀ n ∈ r, 0 ≤ n ∧ n ≤ 10000) → ∀ w ∈ difG a r, w.length ≤ 7
  | [], _, _, _, w, h => by cases h
  | b :: r, a, ha, hr, w, h => by
    have hb := hr b (List.mem_cons_self ..)
    rcases List.mem_cons.1 (show w ∈ dW (b - a) :: difG b r from h) with h | h
    · rw [h]; exact dW_len (by omega)
    · exact difG_wlen r b hb (fun n hn => hr n (List.mem_cons_of_mem _ hn)) w h
theorem wrdG_len {x : Gau} (h : okGau x = true) : (wrdG x).length = x.s.length + 2 ∧ (Lib.join (wrdG x) [32]).length ≤ 300 := by
  obtain ⟨h1, h2, ⟨h3, h4⟩, h5⟩ := okGau_iff h
  have h0 := h5 _ (nth_mem (xs := x.s) (i := 0) (by omega))
  have hl : (wrdG x).length = x.s.length + 2 := by
    unfold wrdG
    rw [List.length_append, difG_len, List.length_drop]
    simp only [List.length_cons, List.length_nil]; omega
  refine ⟨hl, ?_⟩
  have hw : ∀ w ∈ wrdG x, w.length ≤ 7 := fun w hw => by
    unfold wrdG at hw
    have hi : ∀ n : Int, 0 ≤ n → n ≤ 100000 → (Lib.itoa n).length ≤ 7 := fun n a b => by
      have := decD_len 5 n.toNat (by omega)
      rw [itoa_dec a]; omega
    rcases List.mem_append.1 hw with hw | hw
    · rcases List.mem_cons.1 hw with hw | hw
      · rw [hw]; exact hi _ (by omega) (by omega)
      rcases List.mem_cons.1 hw with hw | hw
      · rw [hw]; exact hi _ (by omega) (by omega)
      · rw [List.mem_singleton.1 hw]; exact hi _ (by omega) (by omega)
    · exact difG_wlen _ _ h0 (fun n hn => h5 n (List.mem_of_mem_drop hn)) w hw
  have h9 := join_len [32] 7 (wrdG x) hw
  rw [hl] at h9
  have h8 : (x.s.length + 2) * (7 + 1) ≤ 26 * 8 := Nat.mul_le_mul_right _ (by omega)
  have h7 : ([32] : List UInt8).length = 1 := rfl
  rw [h7] at h9
  omega
theorem gauP_le {x : Gau} (h : okGau x = true) : (gauP x).length ≤ 304 := by
  have h1 := (wrdG_len h).2
  unfold gauP sealedP
  rw [sealP_len, List.length_append]
  simp only [List.length_cons, List.length_nil]
  omega
/-- the first words of a gauge line -/
def wlG (x : Gau) (i : Nat) : List (List UInt8) := [Lib.itoa x.st, Lib.itoa x.hr, Lib.itoa (nth x.s 0)] ++ difG (nth x.s 0) ((x.s.drop 1).take i)
theorem wlG_next {x : Gau} {i : Nat} (h : i + 1 < x.s.length) : wlG x (i + 1) = wlG x i ++ [dW (nth x.s (i + 1) - nth x.s i)] := by
  unfold wlG
  rw [difG_next h, ← List.append_assoc]
theorem wlG_end {x : Gau} {i : Nat} (h : x.s.length ≤ i + 1) : wlG x i = wrdG x := by
  unfold wlG wrdG
  rw [List.take_of_length_le (by rw [List.length_drop]; omega)]
theorem wlG_len (x : Gau) (i : Nat) : (wlG x i).length ≤ 3 + i := by
  unfold wlG
  rw [List.length_append, difG_len, List.length_take]
  simp only [List.length_cons, List.length_nil]; omega
theorem itoa_sign {d : Int} (h : d < 0) : nth (Lib.itoa d) 0 = 45 ∧ 0 < (Lib.itoa d).length := by
  rw [itoa_minus h]; exact ⟨rfl, Nat.succ_pos _⟩
theorem itoa_nosign {d : Int} (h : 0 ≤ d) : nth (Lib.itoa d) 0 ≠ 45 ∧ 0 < (Lib.itoa d).length := by
  rw [itoa_dec h]
  have hp := decD_pos d.toNat
  refine ⟨fun e => ?_, hp⟩
  have h9 := decD_dg d.toNat _ (nth_mem hp)
  rw [e] at h9
  revert h9; decide
theorem itoa_first {d : Int} : ((nth (Lib.itoa d) 0).toNat ≠ 45 ↔ 0 ≤ d) ∧ 0 < (Lib.itoa d).length := by
  by_cases q : d < 0
  · refine ⟨⟨fun h => ?_, fun h => by omega⟩, (itoa_sign q).2⟩
    rw [(itoa_sign q).1] at h; exact absurd rfl h
  · refine ⟨⟨fun _ => by omega, fun _ h => ?_⟩, (itoa_nosign (by omega)).2⟩
    exact (itoa_nosign (d := d) (by omega)).1 (UInt8.toNat_inj.1 h)

end Go.Proofs.YtjdcpnaocjddoaaGreatDoor
namespace Go.Proofs.YtjdcpnaocjddoaaGreatDoor
open Go Go.RowKit Go.Proofs.Tryz
theorem isGauge_c (x : Gau) (w0 : World) (hs : Sl encI 1 w0 x.ao x.g x.ob x.s) (_hcp : x.s.length ≤ x.cp) (hsl : x.s.length ≤ 1000000) :
    CallsV Tryz.prog 128 [.agg #[.int .i64 x.st, .int .i64 x.hr, .slice x.ao x.s.length x.cp]] w0 (fun v w' => v = .bool (okGau x) ∧ Ext w0 w') := by
 refine f_n func128 ?_
 refine go ?_
 refine x_b fun bk2 w3 ebk2 sbk2 B4 u5 => ?_
 refine go ?_
 refine x_l fun bk8 w9 ebk8 sbk8 B10 u11 => ?_
 refine x_c func62 rfl rfl (within1_v 0 99 x.st bk8 _ _ B10) ?_
 rintro _ w14 ⟨rfl, u15⟩ zu15
 refine go ?_
 refine t_splitp 7 rfl (fun g7 => ?_) (fun g7 => ?_)
 ·
  refine go ?_
  refine x_l fun bk18 w19 ebk18 sbk18 B20 u21 => ?_
  refine x_c func62 rfl rfl (within1_v 0 100000 x.hr bk18 _ _ B20) ?_
  rintro _ w24 ⟨rfl, u25⟩ zu25
  refine go ?_
  refine t_splitp 13 rfl (fun g13 => ?_) (fun g13 => ?_)
  ·
   refine go ?_
   refine x_l fun bk28 w29 ebk28 sbk28 B30 u31 => ?_
   refine x_c func62 rfl rfl (within1_v 1 24 (x.s.length : Int) bk28 _ _ B30) ?_
   rintro _ w34 ⟨rfl, u35⟩ zu35
   refine go ?_
   refine t_splitp 20 rfl (fun g20 => ?_) (fun g20 => ?_)
   ·
    refine go ?_
    refine x_c func62 rfl rfl (within_c 0 10000 x.s x.ao x.g x.ob x.cp _ (hs.keep ((((((((Upd.refl (fun _ => False) w0).nx u5).nx u11).nx u15).nx u21).nx u25).nx u31).nx u35) (fun _ h => h)) (by omega)) ?_
    rintro _ w39 ⟨rfl, u40⟩ zu40
    refine go ?_
    refine f_1 results128 ?_
    exact ⟨congrArg Value.bool (by unfold okGau; first | exact (decide_eq_false (by omega)).symm | exact (decide_eq_false (fun h => by have h1 := h.1; have h2 := h.2.1; have h3 := h.2.2.1; omega)).symm | exact decide_eq_decide.2 ⟨fun h => ⟨by omega, by omega, by omega, h⟩, fun h => h.2.2.2⟩), u_d⟩
   refine go ?_
   refine f_1 results128 ?_
   exact ⟨congrArg Value.bool (by unfold okGau; first | exact (decide_eq_false (by omega)).symm | exact (decide_eq_false (fun h => by have h1 := h.1; have h2 := h.2.1; have h3 := h.2.2.1; omega)).symm | exact decide_eq_decide.2 ⟨fun h => ⟨by omega, by omega, by omega, h⟩, fun h => h.2.2.2⟩), u_d⟩
  refine go ?_
  refine f_1 results128 ?_
  exact ⟨congrArg Value.bool (by unfold okGau; first | exact (decide_eq_false (by omega)).symm | exact (decide_eq_false (fun h => by have h1 := h.1; have h2 := h.2.1; have h3 := h.2.2.1; omega)).symm | exact decide_eq_decide.2 ⟨fun h => ⟨by omega, by omega, by omega, h⟩, fun h => h.2.2.2⟩), u_d⟩
 refine go ?_
 refine f_1 results128 ?_
 exact ⟨congrArg Value.bool (by unfold okGau; first | exact (decide_eq_false (by omega)).symm | exact (decide_eq_false (fun h => by have h1 := h.1; have h2 := h.2.1; have h3 := h.2.2.1; omega)).symm | exact decide_eq_decide.2 ⟨fun h => ⟨by omega, by omega, by omega, h⟩, fun h => h.2.2.2⟩), u_d⟩

theorem gaugeAfter_c (x y : Gau) (w0 : World) (hx : okGau x = true) :
    CallsV Tryz.prog 129 [.agg #[.int .i64 x.st, .int .i64 x.hr, .slice x.ao x.s.length x.cp], .agg #[.int .i64 y.st, .int .i64 y.hr, .slice y.ao y.s.length y.cp]] w0 (fun v w' => v = .bool (decide (aftG x y)) ∧ Ext w0 w') := by
 have hx9 := okGau_iff hx
 obtain ⟨hx1, hx2, hx3, _⟩ := hx9
 refine f_n func129 ?_
 refine go ?_
 refine x_b fun bk2 w3 ebk2 sbk2 B4 u5 => ?_
 refine x_b fun bk7 w8 ebk7 sbk7 B9 u10 => ?_
 refine go ?_
 refine t_splitp 10 rfl (fun g10 => ?_) (fun g10 => ?_)
 ·
  refine go ?_
  refine f_1 results129 ?_
  exact ⟨congrArg Value.bool (by unfold aftG; first | exact (decide_eq_false (by omega)).symm | exact (decide_eq_true (by omega)).symm | exact decide_eq_decide.2 (by omega)), u_d⟩
 refine go ?_
 refine t_splitp 16 rfl (fun g16 => ?_) (fun g16 => ?_)
 ·
  refine go ?_
  refine f_1 results129 ?_
  exact ⟨congrArg Value.bool (by unfold aftG; first | exact (decide_eq_false (by omega)).symm | exact (decide_eq_true (by omega)).symm | exact decide_eq_decide.2 (by omega)), u_d⟩
 refine go ?_
 refine f_1 results129 ?_
 exact ⟨congrArg Value.bool (by unfold aftG; first | exact (decide_eq_false (by omega)).symm | exact (decide_eq_true (by omega)).symm | exact decide_eq_decide.2 (by omega)), u_d⟩

set_option maxHeartbeats 4000000 in
set_option maxRecDepth 20000 in
theorem gaugeLine_c (x : Gau) (w0 : World) (hs : Sl encI 1 w0 x.ao x.g x.ob x.s) (hcp : x.s.length ≤ x.cp) (hsl : x.s.length ≤ 1000000) (hok : okGau x = true) (hT : Tab10 w0) (_hpos : 0 < w0.heap.size) :
    CallsV Tryz.prog 130 [.agg #[.int .i64 x.st, .int .i64 x.hr, .slice x.ao x.s.length x.cp]] w0 (fun v w' => v = .string (strB (gauP x)) ∧ Ext w0 w') := by
 have hx9 := okGau_iff hok
 obtain ⟨hx1, hx2, hx3, hx4⟩ := hx9
 have hx0 := hx4 _ (nth_mem (xs := x.s) (i := 0) (by omega))
 have hblt := hs.lt (show 0 < x.s.length by omega)
 refine f_n func130 ?_
 refine go ?_
 refine x_b fun bk2 w3 ebk2 sbk2 B4 u5 => ?_
 refine go ?_
 refine c_drawnM follows (fun _ => False) (OTl [0, 2, 6, 8, 12, 14, 16, 18, 5, 11, 21, 23, 24]) (by kernel_rfl) fun w8 u9 => ?_
 have zu9 := u9.size
 have E10 := Sc.mk (((Upd.refl (fun _ => False) w0).nx u5).nx u9)
 refine go ?_
 refine y_i 0 (hs.keep E10.u (fun _ h => h)) (fun _ => ?_)
 refine go ?_
 refine x_c func145 rfl rfl (itoa_c x.st _ (by omega) (hT.ext E10.u)) ?_
 rintro _ w13 ⟨rfl, u14⟩ zu14
 have E16 := Sc.mk (E10.u.nx u14)
 refine go ?_
 refine x_c func145 rfl rfl (itoa_c x.hr _ (by omega) (hT.ext E16.u)) ?_
 rintro _ w18 ⟨rfl, u19⟩ zu19
 have E21 := Sc.mk (E16.u.nx u19)
 refine go ?_
 refine x_c func145 rfl rfl (itoa_c (nth x.s 0) _ (by omega) (hT.ext E21.u)) ?_
 rintro _ w23 ⟨rfl, u24⟩ zu24
 refine go ?_
 refine x_l fun bk27 w28 ebk27 sbk27 B29 u30 => ?_
 refine go ?_
 refine t_sliceFrom 1 underlying59 sizeOf3 rfl rfl rfl rfl rfl (by omega) (by omega) ?_
 refine go ?_
 refine x_l2 (fun i => i = bk27 ∨ w28.heap.size ≤ i) [1, 21, 22] (fun (i : Nat) (q : (Option Addr × Nat × Nat)) => [(3, .slice q.1 ((wlG x i).length) q.2.2), (23, .int .i64 (i : Int))]) (fun i q w => (i ≤ x.s.length - 1) ∧ (Acc encStr 1 9 w0.heap.size w q.1 q.2.1 q.2.2 (wlG x i)) ∧ (q.2.1 = bk27 ∨ w28.heap.size ≤ q.2.1)) (fun i q => x.s.length - 1 - i) 0 (some ⟨bk27, 0, none⟩, bk27, 3) ⟨(Nat.zero_le _), (Acc.ofBlk (base := w0.heap.size) (xs := wlG x 0) encStr 1 (fun _ => rfl) B29 (by omega) (by have h9 := wlG_len x 0; omega)), (.inl rfl)⟩ ?_
 rintro i q w35 ⟨hi, hA, hqW⟩ u36 zu36 K34 hK34
 have E37 := Sc.mk (((E21.u.nx u24).nx u30).next u36 (fun i hi h => by omega))
 have lt_q_2_1 := hA.lt
 have hwl := wlG_len x i
 have hdrl : (x.s.drop 1).length = x.s.length - 1 := List.length_drop
 refine go ?_
 refine q_p (fun g24 => ?_) fun g24 => ?_
 ·
  have hv1 := hx4 _ (nth_mem (xs := x.s) (i := i + 1) (by omega))
  have hv2 := hx4 _ (nth_mem (xs := x.s) (i := i) (by omega))
  obtain ⟨hfs, hfl⟩ := itoa_first (d := (nth x.s (i + 1) - nth x.s i))
  have hil := itoa_len (n := (nth x.s (i + 1) - nth x.s i)) (by omega)
  refine go ?_
  refine g_i i (by have h9 := ((hs.keep E37.u (fun _ h => h))).sub x.cp 1 (x.s.length - 1) hcp; rw [List.take_of_length_le (by rw [List.length_drop]; exact Nat.le_refl _)] at h9; exact h9) (fun _ => ?_)
  refine st1 ?_
  refine t_same 27 (v := .int .i64 (nth x.s (i + 1))) rfl (congrArg (Value.int .i64) (by rw [nth_drop, Nat.add_comm])) ?_
  refine go ?_
  refine g_i i (hs.keep E37.u (fun _ h => h)) (fun _ => ?_)
  refine go ?_
  refine x_c func145 rfl rfl (itoa_c ((nth x.s (i + 1)) - (nth x.s i)) _ (by omega) (hT.ext E37.u)) ?_
  rintro _ w46 ⟨rfl, u47⟩ zu47
  refine go ?_
  refine t_idxS 0 underlying9 rfl rfl rfl rfl rfl (by omega) ?_
  refine go ?_
  refine q_p (fun g38 => ?_) fun g38 => ?_
  ·
   have hd0 : 0 ≤ (nth x.s (i + 1) - nth x.s i) := hfs.1 (by omega)
   refine go ?_
   refine t_bo (Bo.addS (by simp only [List.length_cons, List.length_nil]; omega)) rfl rfl rfl rfl (t_same 40 (v := .string (strB (dW (nth x.s (i + 1) - nth x.s i)))) rfl (congrArg (fun z => Value.string (strB z)) (by unfold dW; rw [if_neg (by omega)]; rfl)) ?_)
   refine go ?_
   refine x_l fun bk52 w53 ebk52 sbk52 B54 u55 => ?_
   have D57 := ((hA.keep u47 (fun _ h => h)).keep u55 (fun _ h => h))
   refine t_append (z := .string (strB ([]))) (bytes := 16) (k := 1) (base := w0.heap.size) (dW (nth x.s (i + 1) - nth x.s i)) underlying105 (by kernel_rfl) rfl (by decide) (fun _ => rfl) (by intro x; simp [encStr, Value.oneCell']) rfl rfl rfl rfl D57 B54 (by omega) (by omega) (by decide) (fun ao58 gb59 cp60 w61 A62 u63 gegb59 lngb59 => ?_)
   have zu63 := u63.size
   have lt_gb59 := A62.lt
   refine go ?_
   exact hK34 (i + 1) (ao58, gb59, cp60) ⟨(by omega), (by rw [wlG_next (by omega)]; exact A62), (show gb59 = bk27 ∨ w28.heap.size ≤ gb59 by omega)⟩ (hs := by exact ⟨(congrArg some (by rw [wlG_next (by omega)])), rfl, rfl, rfl, rfl, trivial⟩)
  have hd0 : (nth x.s (i + 1) - nth x.s i) < 0 := by
    rcases Int.lt_or_le (nth x.s (i + 1) - nth x.s i) 0 with h | h
    · exact h
    · exact absurd (hfs.2 h) (by omega)
  refine c_same 6 (v := .string (strB (dW (nth x.s (i + 1) - nth x.s i)))) rfl (congrArg (fun z => Value.string (strB z)) (by unfold dW; rw [if_pos hd0])) ?_
  refine go ?_
  refine x_l fun bk65 w66 ebk65 sbk65 B67 u68 => ?_
  have D70 := ((hA.keep u47 (fun _ h => h)).keep u68 (fun _ h => h))
  refine t_append (z := .string (strB ([]))) (bytes := 16) (k := 1) (base := w0.heap.size) (dW (nth x.s (i + 1) - nth x.s i)) underlying105 (by kernel_rfl) rfl (by decide) (fun _ => rfl) (by intro x; simp [encStr, Value.oneCell']) rfl rfl rfl rfl D70 B67 (by omega) (by omega) (by decide) (fun ao71 gb72 cp73 w74 A75 u76 gegb72 lngb72 => ?_)
  have zu76 := u76.size
  have lt_gb72 := A75.lt
  refine go ?_
  exact hK34 (i + 1) (ao71, gb72, cp73) ⟨(by omega), (by rw [wlG_next (by omega)]; exact A75), (show gb72 = bk27 ∨ w28.heap.size ≤ gb72 by omega)⟩ (hs := by exact ⟨(congrArg some (by rw [wlG_next (by omega)])), rfl, rfl, rfl, rfl, trivial⟩)
 have hend := wlG_end (x := x) (i := i) (by omega)
 have hjl := wrdG_len hok
 refine go ?_
 refine x_c func146 rfl rfl (by have h9 := sealed_c (wlG x i) q.1 q.2.1 0 q.2.2 w35 (hA.sl (fun _ => rfl)) (hA).cap_le (by omega) (by rw [hend]; omega); rw [hend] at h9 ⊢; exact h9) ?_
 rintro _ w80 ⟨rfl, u81⟩ zu81
 refine go ?_
 refine f_1 results130 ?_
 exact ⟨rfl, u_d⟩

end Go.Proofs.YtjdcpnaocjddoaaGreatDoor
