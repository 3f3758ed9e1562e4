/-
  Part 17 of the proof: contracts and plain laws. Conditions: none.
-/
import Derived.Lib.AtoiErrMem
import Derived.WalkKit
import Derived.BigCall
import Derived.Test.YtjdcpnaocjddoaaGreatDoorJK16
namespace Go.Proofs.YtjdcpnaocjddoaaGreatDoor
open Go Go.RowKit Go.Proofs.Tryz Go.Shelf
/-- A piece that is handed out, and those before it. -/
structure StX where
  pre : List (List UInt8)
  v : List UInt8
  w : World
def encStX (x : StX) : Value := .string (strB x.v)
def YSt (L : List (List UInt8)) (D : Nat) (C : List (List UInt8) → World → Prop) (x : StX) (W : World) : Prop := C x.pre W ∧ ((∃ r, L = x.pre ++ x.v :: r) ∧ D + 1 < W.heap.size) ∧ Upd (· = D + 1) x.w W
def ZSt (T : Nat → Prop) (C : List (List UInt8) → World → Prop) (x : StX) (W : World) : Prop := C (x.pre ++ [x.v]) W ∧ Upd T x.w W
def FSt (T : Nat → Prop) (Cf : List (List UInt8) × List UInt8 → World → Prop) (x : StX) (W : World) : Prop := Cf (x.pre, x.v) W ∧ Upd T x.w W
def EndS (L : List (List UInt8)) (Cf : List (List UInt8) × List UInt8 → World → Prop) (W : World) : Prop := ∃ pre v post, L = pre ++ v :: post ∧ Cf (pre, v) W
theorem YSt.turned {L : List (List UInt8)} {D : Nat} {C : List (List UInt8) → World → Prop} (hC : Turned (D + 1) C) : Turned (D + 1) (YSt L D C) := fun _x _W _W' h hl u => ⟨hC _ _ _ h.1 hl u, ⟨h.2.1.1, Nat.lt_of_lt_of_le h.2.1.2 u.size⟩, h.2.2.trans u⟩
theorem ZSt.turned {D : Nat} {T : Nat → Prop} {C : List (List UInt8) → World → Prop} (hC : Turned (D + 1) C) (hT : T (D + 1)) : Turned (D + 1) (ZSt T C) := fun x W W' h hl u => ⟨hC _ _ _ h.1 hl u, h.2.trans (u.mono fun i e => by subst e; exact hT)⟩
theorem FSt.turned {D : Nat} {T : Nat → Prop} {Cf : List (List UInt8) × List UInt8 → World → Prop} (hC : Turned (D + 1) Cf) (hT : T (D + 1)) : Turned (D + 1) (FSt T Cf) := fun x W W' h hl u => ⟨hC _ _ _ h.1 hl u, h.2.trans (u.mono fun i e => by subst e; exact hT)⟩
theorem EndS.turned {D : Nat} {L : List (List UInt8)} {Cf : List (List UInt8) × List UInt8 → World → Prop} (hC : Turned (D + 1) Cf) : Turned (D + 1) (fun (_ : Unit) W => EndS L Cf W) := fun _ W W' h hl u => by
  obtain ⟨pre, v, post, e, h⟩ := h
  exact ⟨pre, v, post, e, hC _ _ _ h hl u⟩
/-- lines as they are handed out -/
def lnsP (s : List UInt8) : List (List UInt8) := (linesP s).map (· ++ [10])
structure LnI (s : List UInt8) (p : List (List UInt8)) (r : List UInt8) : Prop where
  eq : lnsP s = p ++ lnsP r
  fin : r ≠ [] → nth r (r.length - 1) = 10
  len : r.length ≤ s.length
theorem LnI.nil {s : List UInt8} (h : s ≠ [] → nth s (s.length - 1) = 10) : LnI s [] s := ⟨rfl, h, Nat.le_refl _⟩
theorem LnI.has {s : List UInt8} {p : List (List UInt8)} {r : List UInt8} (h : LnI s p r) (hr : 0 < r.length) : 0 ≤ Lib.indexByte r 10 := by
  rcases idx_spec 10 r with ⟨_, h2⟩ | ⟨i, h1, _⟩
  · exact absurd (h.fin (List.length_pos_iff.1 hr)) (h2 _ (by omega))
  · omega
theorem lnsP_hit {r : List UInt8} {i : Nat} (h : Lib.indexByte r 10 = i) : lnsP r = r.take (i + 1) :: lnsP (r.drop (i + 1)) := by
  obtain ⟨h1, h2, h3⟩ := pcs_hit h
  unfold lnsP linesP
  rw [h3]
  cases hp : pcs 10 (r.drop (i + 1)) with
  | nil => exact absurd hp (pcs_ne _ _)
  | cons y t =>
    rw [List.dropLast_cons_cons, List.map_cons, take_nth h1, h2]
theorem LnI.mem {s : List UInt8} {p : List (List UInt8)} {r : List UInt8} (h : LnI s p r) {i : Nat} (hi : Lib.indexByte r 10 = i) : ∃ q, lnsP s = p ++ r.take (i + 1) :: q := ⟨_, by rw [h.eq, lnsP_hit hi]⟩
theorem LnI.next {s : List UInt8} {p : List (List UInt8)} {r : List UInt8} (h : LnI s p r) {i : Nat} (hi : Lib.indexByte r 10 = i) : LnI s (p ++ [r.take (i + 1)]) (r.drop (i + 1)) := by
  obtain ⟨h1, h2, h3⟩ := pcs_hit hi
  have hl := h.len
  refine ⟨by rw [h.eq, lnsP_hit hi, List.append_assoc]; rfl, fun hn => ?_, by rw [List.length_drop]; omega⟩
  have hp := List.length_pos_iff.2 hn
  rw [List.length_drop] at hp ⊢
  rw [nth_drop, show i + 1 + (r.length - (i + 1) - 1) = r.length - 1 by omega]
  exact h.fin (by intro e; rw [e] at h1; cases h1)
theorem LnI.end_ {s : List UInt8} {p : List (List UInt8)} {r : List UInt8} (h : LnI s p r) (hr : r.length = 0) : lnsP s = p := by
  have e := List.eq_nil_of_length_eq_zero hr
  subst e
  rw [h.eq]
  show p ++ [] = p
  exact List.append_nil _
/-- pieces that are handed out -/
structure SqI (c : UInt8) (s : List UInt8) (p : List (List UInt8)) (r : List UInt8) : Prop where
  eq : pcs c s = p ++ pcs c r
  len : r.length ≤ s.length
theorem SqI.nil (c : UInt8) (s : List UInt8) : SqI c s [] s := ⟨rfl, Nat.le_refl _⟩
theorem SqI.mem {c : UInt8} {s : List UInt8} {p : List (List UInt8)} {r : List UInt8} (h : SqI c s p r) {i : Nat} (hi : Lib.indexByte r c = i) : ∃ q, pcs c s = p ++ r.take i :: q := ⟨_, by rw [h.eq, (pcs_hit hi).2.2]⟩
theorem SqI.next {c : UInt8} {s : List UInt8} {p : List (List UInt8)} {r : List UInt8} (h : SqI c s p r) {i : Nat} (hi : Lib.indexByte r c = i) : SqI c s (p ++ [r.take i]) (r.drop (i + 1)) := by
  have hl := h.len
  refine ⟨by rw [h.eq, (pcs_hit hi).2.2, List.append_assoc]; rfl, by rw [List.length_drop]; omega⟩
theorem SqI.end_ {c : UInt8} {s : List UInt8} {p : List (List UInt8)} {r : List UInt8} (h : SqI c s p r) (hi : Lib.indexByte r c < 0) : pcs c s = p ++ [r] := by rw [h.eq, pcs_miss hi]
theorem cutL_hit {c : UInt8} {s : List UInt8} {i : Nat} (h : Lib.indexByte s c = i) : cutL c s = s.take i ∧ cutR c s = s.drop (i + 1) := by
  obtain ⟨h1, h2, h3⟩ := pcs_hit h
  have e : cutL c s = s.take i := by unfold cutL; rw [h3]; rfl
  refine ⟨e, ?_⟩
  unfold cutR
  rw [e, List.length_take, Nat.min_eq_left (by omega)]
theorem cutL_miss {c : UInt8} {s : List UInt8} (h : Lib.indexByte s c < 0) : cutL c s = s ∧ cutR c s = [] := by
  have e : cutL c s = s := by unfold cutL; rw [pcs_miss h]; rfl
  refine ⟨e, ?_⟩
  unfold cutR
  rw [e, List.drop_of_length_le (by omega)]

set_option maxRecDepth 100000 in
theorem numbS (s : ByteArray) (hlim : s.size ≤ 281474976710656) (ev0 ev1 : Value) (w : World) (hv0 : w.cell? ⟨(layAtoi_ren.g 15), 0, none⟩ = some ev0) (he0 : ev0 = .nilIface ∨ ∃ te pe, ev0 = .iface te pe) (hv1 : w.cell? ⟨(layAtoi_ren.g 16), 0, none⟩ = some ev1) (he1 : ev1 = .nilIface ∨ ∃ te pe, ev1 = .iface te pe) :
    Calls Tryz.prog 117 #[.string s] w fun e w' => e = .returned (.int .i64 (Lib.atoiOr s.data.toList (-1))) ∧ Below w.heap.size w w' := by
  cases h : Lib.atoiAll s.data.toList
  · rename_i v
    have hr : Lib.atoiOr s.data.toList (-1) = v := by simp only [Lib.atoiOr, h]
    rw [hr]
    go_enter func117, Tryz.ntmps117
    go_wp2_with (go_at_call 132; refine (Any.strconv_Atoi_ok layAtoi s (by omega) v h _).mono ?_; rintro e w' ⟨rfl, hw⟩)
    go_ret
    refine ⟨rfl, ?_⟩
    rcases hw with rfl | ⟨t, rfl⟩
    · exact Below.refl _ _
    · exact Lib.bytesWorld_below _ _ _
  · have hr : Lib.atoiOr s.data.toList (-1) = (-1) := by simp only [Lib.atoiOr, h]
    rw [hr]
    go_enter func117, Tryz.ntmps117
    go_wp2_with (go_at_call 132; refine (Any.strconv_Atoi_syntax layAtoi s hlim h ev0 _ ?_ he0).mono ?_)
    · exact hv0
    rintro e W1 ⟨N, rfl, -, -, hb⟩
    go_wp2
    go_ret
    exact ⟨rfl, hb⟩
  · have hr : Lib.atoiOr s.data.toList (-1) = (-1) := by simp only [Lib.atoiOr, h]
    rw [hr]
    go_enter func117, Tryz.ntmps117
    go_wp2_with (go_at_call 132; refine (Any.strconv_Atoi_range layAtoi s hlim h ev1 _ ?_ he1).mono ?_)
    · exact hv1
    rintro e W1 ⟨N, rfl, -, -, hb⟩
    go_wp2
    go_ret
    exact ⟨rfl, hb⟩
/-- The variables that strconv's errors are made from hold values of an interface's type. -/
def ErrV (w : World) : Prop := ∃ ev0 ev1, w.cell? ⟨(layAtoi_ren.g 15), 0, none⟩ = some ev0 ∧ (ev0 = .nilIface ∨ ∃ te pe, ev0 = .iface te pe) ∧ w.cell? ⟨(layAtoi_ren.g 16), 0, none⟩ = some ev1 ∧ (ev1 = .nilIface ∨ ∃ te pe, ev1 = .iface te pe)
theorem cell_ext {w w' : World} (u : Ext w w') {b o : Nat} {v : Value} (h : w.cell? ⟨b, o, none⟩ = some v) : w'.cell? ⟨b, o, none⟩ = some v := by
  have hlt := Lib.lt_of_cell h
  rw [World.cell?_of_block (u.block _ hlt id)]; exact h
theorem ErrV.ext {w w' : World} (h : ErrV w) (u : Ext w w') : ErrV w' := by
  obtain ⟨ev0, ev1, h0, e0, h1, e1⟩ := h
  exact ⟨ev0, ev1, cell_ext u h0, e0, cell_ext u h1, e1⟩
theorem numb_c (s : List UInt8) (w0 : World) (hl : s.length ≤ 1000000000) (hE : ErrV w0) : CallsV Tryz.prog 117 [.string (strB s)] w0 fun v w' => v = .int .i64 (numP s) ∧ Ext w0 w' := by
  obtain ⟨ev0, ev1, h0, e0, h1, e1⟩ := hE
  refine Calls.mono (numbS (strB s) (by rw [strB_size]; omega) ev0 ev1 w0 h0 e0 h1 e1) ?_
  rintro e w' ⟨rfl, hb⟩
  exact ⟨_, rfl, by rw [strB_data]; rfl, Below.ext hb⟩
theorem ixb10_c (s : List UInt8) (w0 : World) : CallsV Tryz.prog 173 [.string (strB s), .int .u8 10] w0 fun v w' => v = .int .i64 (Lib.indexByte s 10) ∧ Ext w0 w' := ixb_c s 10 w0

theorem sixb_c (s : List UInt8) (w0 : World) :
    CallsV Tryz.prog 156 [.string (strB s), .int .u8 10] w0 (fun v w' => v = .int .i64 (Lib.indexByte s 10) ∧ Ext w0 w') := by
 refine f_n func156 ?_
 refine go ?_
 refine x_c func173 rfl rfl (ixb10_c s _) ?_
 rintro _ w4 ⟨rfl, u5⟩ zu5
 refine go ?_
 refine f_1 results156 ?_
 exact ⟨rfl, u_d⟩

theorem split_c (s : List UInt8) (c : UInt8) (w0 : World) (hsl : s.length ≤ 900000) :
    CallsV Tryz.prog 157 [.string (strB s), .string (strB ([c]))] w0 (fun v w' => (∃ a9 g9 c9, v = .slice a9 (List.length (pcs c s)) c9 ∧ Acc encStr 1 9 w0.heap.size w' a9 g9 c9 (pcs c s)) ∧ Ext w0 w') := by
 refine f_n func157 ?_
 refine go ?_
 refine x_c func174 rfl rfl (genSplit_c s c _ (by omega)) ?_
 rintro _ w4 ⟨⟨bg, rfl, hgB, hbg⟩, u5⟩ zu5
 have hacg := Acc.ofBlk (base := w0.heap.size) (xs := pcs c s) encStr 1 (fun _ => rfl) hbg (by omega) (by have h9 := pcs_len c s; omega)
 refine go ?_
 refine f_1 results157 ?_
 exact ⟨⟨_, _, _, rfl, hacg⟩, u_d⟩

theorem lcut_c (s : List UInt8) (c : UInt8) (w0 : World) (hsl : s.length ≤ 1000000) :
    CallsV Tryz.prog 148 [.string (strB s), .string (strB ([c]))] w0 (fun v w' => v = .tuple #[.string (strB (cutL c s)), .string (strB (cutR c s)), .bool (decide (0 ≤ Lib.indexByte s c))] ∧ Ext w0 w') := by
 refine f_n func148 ?_
 refine go ?_
 refine x_c func169 rfl rfl (lindex_c s c _) ?_
 rintro _ w5 ⟨rfl, u6⟩ zu6
 refine go ?_
 refine q_p (fun g12 => ?_) fun g12 => ?_
 ·
  obtain ⟨i, hi⟩ : ∃ i : Nat, Lib.indexByte s c = (i : Int) := ⟨_, (Int.toNat_of_nonneg g12).symm⟩
  obtain ⟨hil, _, _⟩ := pcs_hit hi
  obtain ⟨hcl, hcr⟩ := cutL_hit hi
  refine c_same 7 (v := .int .i64 (i : Int)) rfl (by rw [hi]) ?_
  refine go ?_
  refine c_drawnM follows (fun _ => False) (OTl [0, 2, 4, 6, 8, 10, 12, 14, 16, 18, 20, 22]) (by kernel_rfl) fun w11 u12 => ?_
  have zu12 := u12.size
  refine go ?_
  refine y_subS 0 i underlying9 rfl rfl rfl (.inr ⟨rfl, rfl⟩) (k := .i64) (m := 0) (x1 := .tmp 0) (.inl ⟨rfl, rfl, by first | rfl | omega⟩) (by omega) (by omega) (y_same 15 (v := .string (strB (s.take i))) rfl (congrArg (fun z => Value.string (strB z)) (by rw [List.drop_zero, Nat.sub_zero])) ?_)
  refine go ?_
  refine y_lenS underlying9 rfl rfl rfl rfl (y_same 19 (v := .int .i64 1) rfl rfl ?_)
  refine go ?_
  refine y_subS (i + 1) s.length underlying9 rfl rfl rfl (.inl ⟨rfl, rfl, by first | rfl | omega⟩) (.inr ⟨rfl, rfl⟩) (k' := .i64) (n := 0) (x2 := .tmp 0) (by omega) (by omega) (y_same 21 (v := .string (strB (s.drop (i + 1)))) rfl (congrArg (fun z => Value.string (strB z)) (List.take_of_length_le (by rw [List.length_drop]; exact Nat.le_refl _))) ?_)
  refine go ?_
  refine f_ret3 (v1 := .string (strB (s.take i))) (v2 := .string (strB (s.drop (i + 1)))) (v3 := .bool true) results148 rfl rfl rfl ?_
  rw [hcl, hcr, decide_eq_true g12]
  exact ⟨rfl, u_d⟩
 obtain ⟨hcl, hcr⟩ := cutL_miss (c := c) (s := s) (by omega)
 refine go ?_
 refine f_ret3 (v1 := .string (strB s)) (v2 := .string (strB ([]))) (v3 := .bool false) results148 rfl rfl rfl ?_
 rw [hcl, hcr, decide_eq_false g12]
 exact ⟨rfl, u_d⟩

theorem cut_c (s : List UInt8) (c : UInt8) (w0 : World) (hsl : s.length ≤ 1000000) :
    CallsV Tryz.prog 116 [.string (strB s), .string (strB ([c]))] w0 (fun v w' => v = .tuple #[.string (strB (cutL c s)), .string (strB (cutR c s)), .bool (decide (0 ≤ Lib.indexByte s c))] ∧ Ext w0 w') := by
 refine f_n func116 ?_
 refine go ?_
 refine x_c func148 rfl rfl (lcut_c s c _ hsl) ?_
 rintro _ w4 ⟨rfl, u5⟩ zu5
 refine go ?_
 refine f_ret3 (v1 := .string (strB (cutL c s))) (v2 := .string (strB (cutR c s))) (v3 := .bool (decide (0 ≤ Lib.indexByte s c))) results116 rfl rfl rfl ?_
 exact ⟨rfl, u_d⟩

theorem splitSeq_c (s : List UInt8) (c : UInt8) (w0 : World) :
    CallsV Tryz.prog 149 [.string (strB s), .string (strB ([c])), .int .i64 0] w0 (fun v w' => (∃ b1 b2 b3, v = .func (.func 170) #[] #[.pointer (some ⟨b1, 0, none⟩), .pointer (some ⟨b2, 0, none⟩), .pointer (some ⟨b3, 0, none⟩)] ∧ w0.heap.size ≤ b1 ∧ w0.heap.size ≤ b2 ∧ w0.heap.size ≤ b3 ∧ b1 ≠ b2 ∧ b3 ≠ b2 ∧ Blk w' b1 9 [.string (strB [c])] ∧ Blk w' b2 9 [.string (strB s)] ∧ Blk w' b3 3 [.int .i64 0]) ∧ Ext w0 w') := by
 refine f_n func149 ?_
 refine go ?_
 refine x_b fun bk2 w3 ebk2 sbk2 B4 u5 => ?_
 refine x_b fun bk7 w8 ebk7 sbk7 B9 u10 => ?_
 refine x_b fun bk12 w13 ebk12 sbk12 B14 u15 => ?_
 refine go ?_
 refine t_mkfunc (vs := []) (us := [.pointer (some ⟨bk7, 0, none⟩), .pointer (some ⟨bk2, 0, none⟩), .pointer (some ⟨bk12, 0, none⟩)]) rfl rfl rfl rfl ?_
 refine go ?_
 refine f_1 results149 ?_
 have B18 := (B9.kx u15)
 have B19 := ((B4.kx u10).kx u15)
 exact ⟨⟨bk7, bk2, bk12, rfl, by omega, by omega, by omega, by omega, by omega, B18, B19, B14⟩, u_d⟩

theorem SplitSeq_c (s : List UInt8) (c : UInt8) (w0 : World) :
    CallsV Tryz.prog 118 [.string (strB s), .string (strB ([c]))] w0 (fun v w' => (∃ b1 b2 b3, v = .func (.func 170) #[] #[.pointer (some ⟨b1, 0, none⟩), .pointer (some ⟨b2, 0, none⟩), .pointer (some ⟨b3, 0, none⟩)] ∧ w0.heap.size ≤ b1 ∧ w0.heap.size ≤ b2 ∧ w0.heap.size ≤ b3 ∧ b1 ≠ b2 ∧ b3 ≠ b2 ∧ Blk w' b1 9 [.string (strB [c])] ∧ Blk w' b2 9 [.string (strB s)] ∧ Blk w' b3 3 [.int .i64 0]) ∧ Ext w0 w') := by
 refine f_n func118 ?_
 refine go ?_
 refine x_c func149 rfl rfl (splitSeq_c s c _) ?_
 rintro _ w4 ⟨⟨b1, b2, b3, rfl, hg1, hg2, hg3, hn1, hn3, hb1, hb2, hb3⟩, u5⟩ zu5
 refine go ?_
 refine f_1 results118 ?_
 exact ⟨⟨b1, b2, b3, rfl, by omega, by omega, by omega, hn1, hn3, hb1, hb2, hb3⟩, u_d⟩

theorem Lines_c (s : List UInt8) (w0 : World) :
    CallsV Tryz.prog 123 [.string (strB s)] w0 (fun v w' => (∃ b1, v = .func (.func 155) #[] #[.pointer (some ⟨b1, 0, none⟩)] ∧ w0.heap.size ≤ b1 ∧ Blk w' b1 9 [.string (strB s)]) ∧ Ext w0 w') := by
 refine f_n func123 ?_
 refine go ?_
 refine x_b fun bk2 w3 ebk2 sbk2 B4 u5 => ?_
 refine go ?_
 refine t_mkfunc (vs := []) (us := [.pointer (some ⟨bk2, 0, none⟩)]) rfl rfl rfl rfl ?_
 refine go ?_
 refine f_1 results123 ?_
 exact ⟨⟨bk2, rfl, by omega, B4⟩, u_d⟩

end Go.Proofs.YtjdcpnaocjddoaaGreatDoor
namespace Go.Proofs.YtjdcpnaocjddoaaGreatDoor
open Go Go.RowKit Go.Proofs.Tryz
theorem own170 : Own Tryz.prog 170 := ⟨Tryz.f170, func170, by kernel_rfl, by kernel_rfl⟩
theorem own155 : Own Tryz.prog 155 := ⟨Tryz.f155, func155, by kernel_rfl, by kernel_rfl⟩

set_option maxHeartbeats 4000000 in
set_option maxRecDepth 20000 in
theorem lines1_c (s : List UInt8) (b1 : Nat) (ly D : Nat) (T : Nat → Prop) (C : List (List UInt8) → World → Prop) (Cf : List (List UInt8) × List UInt8 → World → Prop) (R Rf : World → Prop) (w0 : World) (hC : ∀ pre W W', C pre W → Upd (fun i => i = b1) W W' → C pre W') (hH : HandsL Tryz.prog ly D encStX (YSt (lnsP s) D C) (ZSt T C) (FSt T Cf) R Rf) (_hly : ly = D + 1) (hD : D + 1 < w0.heap.size) (hR0 : R w0) (hC0 : C [] w0) (h1 : Blk w0 b1 9 [.string (strB s)]) (hsl : s.length ≤ 1000000) (hend : s ≠ [] → nth s (s.length - 1) = 10) (hT1 : ¬ T b1) :
    CallsV Tryz.prog 155 [.func (.yield ly) #[] #[], .pointer (some ⟨b1, 0, none⟩)] w0 (fun _ w' => ((C (lnsP s) w' ∧ R w') ∨ (EndS (lnsP s) Cf w' ∧ Rf w')) ∧ Upd (fun i => T i ∨ i = b1) w0 w') := by
 have hnb := hH.cell hR0 h1
 have hR : ∀ (_ _ : Unit) W W', R W → Upd (fun i => i = b1) W W' → R W' := fun _ _ W W' h u => hH.keep h u (fun e => hnb.1 e.symm) (fun e => hnb.2 e.symm)
 have hb1l := h1.lt
 have Y0 := Sc.mk (Upd.refl (fun i => T i ∨ i = b1) w0)
 refine f_n func155 ?_
 refine go ?_
 refine x_l2 (fun i => T i ∨ i = b1) [0, 1] (fun (p : List (List UInt8)) (r : List UInt8) => []) (fun p r w => Blk w b1 9 [.string (strB r)] ∧ (LnI s p r) ∧ (C p w) ∧ (R w)) (fun p r => r.length) ([]) s ⟨h1, (LnI.nil hend), hC0, hR0⟩ ?_
 rintro p r w2 ⟨I4, hI, hCk, hRk⟩ u3 zu3 K1 hK1
 have Y5 := Sc.mk (Y0.u.next u3 (fun i hi (h : T i ∨ i = b1) => show T i ∨ i = b1 by first | omega | assumption | exact Or.inl h))
 have hrl := hI.len
 refine go ?_
 refine t_lenS underlying9 rfl rfl rfl rfl ?_
 refine go ?_
 refine q_p (fun g7 => ?_) fun g7 => ?_
 ·
  refine go ?_
  refine x_c func156 rfl rfl (sixb_c r _) ?_
  rintro _ w12 ⟨rfl, u13⟩ zu13
  have Y15 := Sc.mk (Y5.u.nx u13)
  refine go ?_
  refine q_p (fun g11 => ?_) fun g11 => ?_
  ·
   obtain ⟨i, hi⟩ : ∃ i : Nat, Lib.indexByte r 10 = (i : Int) := ⟨_, (Int.toNat_of_nonneg g11).symm⟩
   obtain ⟨hil, _, _⟩ := pcs_hit hi
   have hmem := hI.mem hi
   refine c_same 4 (v := .int .i64 (i : Int)) rfl (by rw [hi]) (c_drawnM follows (fun i => i = b1) (.look 1 (.look 2 (.look 5 (.look 6 (.act 0 (.look 3 (.look 8 (.act 4 (.look 7 (.act 9 .done .stop)) .stop))) (.act 4 (.look 7 (.act 0 (.look 3 (.look 8 (.act 9 .done .stop))) .stop)) .stop)))))) (by kernel_rfl) fun w17 u18 => ?_)
   have zu18 := u18.size
   have Y19 := Sc.mk (Y15.u.nx u18)
   refine go ?_
   refine s_or ?_ ?_
   ·
    refine go ?_
    refine y_subS 0 (i + 1) underlying9 rfl rfl rfl (.inr ⟨rfl, rfl⟩) (k := .i64) (m := 0) (x1 := .tmp 0) (.inl ⟨rfl, rfl, by first | rfl | omega⟩) (by omega) (by omega) (y_same 15 (v := .string (strB (r.take (i + 1)))) rfl (congrArg (fun z => Value.string (strB z)) (by rw [List.drop_zero, Nat.sub_zero])) ?_)
    refine go ?_
    refine y_subS (i + 1) r.length underlying9 rfl rfl rfl (.inl ⟨rfl, rfl, by first | rfl | omega⟩) (.inr ⟨rfl, rfl⟩) (k' := .i64) (n := 0) (x2 := .tmp 0) (by omega) (by omega) (y_same 19 (v := .string (strB (r.drop (i + 1)))) rfl (congrArg (fun z => Value.string (strB z)) (List.take_of_length_le (by rw [List.length_drop]; exact Nat.le_refl _))) ?_)
    refine go ?_
    refine x_s fun w20 sw20 B22 u21 => ?_
    have Y23 := Sc.mk (Y19.u.next u21 (fun i hi (h : i = b1) => show T i ∨ i = b1 by first | omega | assumption | exact Or.inl h))
    refine go ?_
    refine t_yield (vs := [.string (strB (r.take (i + 1)))]) rfl rfl rfl rfl (hH.hand ⟨p, (r.take (i + 1)), w20⟩ _ ⟨(hC _ _ _ hCk ((((Upd.refl (fun i => i = b1) _).nx u13).nx u18).next u21 (fun i hi (h : i = b1) => show i = b1 by first | omega | assumption))), ⟨hmem, by omega⟩, Upd.refl _ _⟩ (hR () () _ _ hRk ((((Upd.refl (fun i => i = b1) _).nx u13).nx u18).next u21 (fun i hi (h : i = b1) => show i = b1 by first | omega | assumption)))) (by rintro e w' (⟨rfl, _⟩ | ⟨rfl, _⟩) <;> exact ⟨_, rfl⟩) (fun v25 w26 r27 => ?_)
    rcases r27 with ⟨hvr27, hrr27⟩ | ⟨hvr27, hrr27⟩ <;> injection hvr27 with hvr27 <;> subst hvr27
    ·
     obtain ⟨⟨hzC, u28⟩, hzR⟩ := hrr27
     have zu28 := u28.size
     have Y29 := Sc.mk (Y23.u.next u28 (fun i hi (h : T i) => show T i ∨ i = b1 by first | omega | assumption | exact Or.inl h))
     refine go ?_
     have B30 := (B22.keep u28 (show ¬ (T b1) by first | omega | assumption))
     exact hK1 (p ++ [r.take (i + 1)]) (r.drop (i + 1)) ⟨B30, (hI.next hi), hzC, hzR⟩ (hm := (by show (r.drop (i + 1)).length < r.length; rw [List.length_drop]; omega)) (hu := ((((u3.nx u13).nx u18).next u21 (fun i hi (h : i = b1) => show T i ∨ i = b1 by first | omega | assumption | exact Or.inl h)).next u28 (fun i hi (h : T i) => show T i ∨ i = b1 by first | omega | assumption | exact Or.inl h)))
    obtain ⟨⟨hzF, u28⟩, hzR⟩ := hrr27
    have zu28 := u28.size
    have Y31 := Sc.mk (Y23.u.next u28 (fun i hi (h : T i) => show T i ∨ i = b1 by first | omega | assumption | exact Or.inl h))
    refine go ?_
    refine f_ret0 results155 ?_
    obtain ⟨q9, hq9⟩ := hmem
    exact ⟨.inr ⟨⟨_, _, q9, hq9, hzF⟩, hzR⟩, Y31.u⟩
   refine go ?_
   refine y_subS (i + 1) r.length underlying9 rfl rfl rfl (.inl ⟨rfl, rfl, by first | rfl | omega⟩) (.inr ⟨rfl, rfl⟩) (k' := .i64) (n := 0) (x2 := .tmp 0) (by omega) (by omega) (y_same 19 (v := .string (strB (r.drop (i + 1)))) rfl (congrArg (fun z => Value.string (strB z)) (List.take_of_length_le (by rw [List.length_drop]; exact Nat.le_refl _))) ?_)
   refine go ?_
   refine y_subS 0 (i + 1) underlying9 rfl rfl rfl (.inr ⟨rfl, rfl⟩) (k := .i64) (m := 0) (x1 := .tmp 0) (.inl ⟨rfl, rfl, by first | rfl | omega⟩) (by omega) (by omega) (y_same 15 (v := .string (strB (r.take (i + 1)))) rfl (congrArg (fun z => Value.string (strB z)) (by rw [List.drop_zero, Nat.sub_zero])) ?_)
   refine go ?_
   refine x_s fun w32 sw32 B34 u33 => ?_
   have Y35 := Sc.mk (Y19.u.next u33 (fun i hi (h : i = b1) => show T i ∨ i = b1 by first | omega | assumption | exact Or.inl h))
   refine go ?_
   refine t_yield (vs := [.string (strB (r.take (i + 1)))]) rfl rfl rfl rfl (hH.hand ⟨p, (r.take (i + 1)), w32⟩ _ ⟨(hC _ _ _ hCk ((((Upd.refl (fun i => i = b1) _).nx u13).nx u18).next u33 (fun i hi (h : i = b1) => show i = b1 by first | omega | assumption))), ⟨hmem, by omega⟩, Upd.refl _ _⟩ (hR () () _ _ hRk ((((Upd.refl (fun i => i = b1) _).nx u13).nx u18).next u33 (fun i hi (h : i = b1) => show i = b1 by first | omega | assumption)))) (by rintro e w' (⟨rfl, _⟩ | ⟨rfl, _⟩) <;> exact ⟨_, rfl⟩) (fun v37 w38 r39 => ?_)
   rcases r39 with ⟨hvr39, hrr39⟩ | ⟨hvr39, hrr39⟩ <;> injection hvr39 with hvr39 <;> subst hvr39
   ·
    obtain ⟨⟨hzC, u40⟩, hzR⟩ := hrr39
    have zu40 := u40.size
    have Y41 := Sc.mk (Y35.u.next u40 (fun i hi (h : T i) => show T i ∨ i = b1 by first | omega | assumption | exact Or.inl h))
    refine go ?_
    have B42 := (B34.keep u40 (show ¬ (T b1) by first | omega | assumption))
    exact hK1 (p ++ [r.take (i + 1)]) (r.drop (i + 1)) ⟨B42, (hI.next hi), hzC, hzR⟩ (hm := (by show (r.drop (i + 1)).length < r.length; rw [List.length_drop]; omega)) (hu := ((((u3.nx u13).nx u18).next u33 (fun i hi (h : i = b1) => show T i ∨ i = b1 by first | omega | assumption | exact Or.inl h)).next u40 (fun i hi (h : T i) => show T i ∨ i = b1 by first | omega | assumption | exact Or.inl h)))
   obtain ⟨⟨hzF, u40⟩, hzR⟩ := hrr39
   have zu40 := u40.size
   have Y43 := Sc.mk (Y35.u.next u40 (fun i hi (h : T i) => show T i ∨ i = b1 by first | omega | assumption | exact Or.inl h))
   refine go ?_
   refine f_ret0 results155 ?_
   obtain ⟨q9, hq9⟩ := hmem
   exact ⟨.inr ⟨⟨_, _, q9, hq9, hzF⟩, hzR⟩, Y43.u⟩
  exact absurd (hI.has (by omega)) g11
 refine go ?_
 refine f_ret0 results155 ?_
 exact ⟨.inl ⟨by rw [hI.end_ (by omega)]; exact hCk, hRk⟩, Y5.u⟩

set_option maxHeartbeats 4000000 in
set_option maxRecDepth 20000 in
theorem splitSeq1_c (s : List UInt8) (c : UInt8) (b1 b2 b3 : Nat) (ly D : Nat) (T : Nat → Prop) (C : List (List UInt8) → World → Prop) (Cf : List (List UInt8) × List UInt8 → World → Prop) (R Rf : World → Prop) (w0 : World) (hC : ∀ pre W W', C pre W → Upd (fun i => i = b2) W W' → C pre W') (hH : HandsL Tryz.prog ly D encStX (YSt (pcs c s) D C) (ZSt T C) (FSt T Cf) R Rf) (_hly : ly = D + 1) (hD : D + 1 < w0.heap.size) (hR0 : R w0) (hC0 : C [] w0) (h1 : Blk w0 b1 9 [.string (strB [c])]) (h2 : Blk w0 b2 9 [.string (strB s)]) (h3 : Blk w0 b3 3 [.int .i64 0]) (hn1 : b1 ≠ b2) (hn3 : b3 ≠ b2) (hsl : s.length ≤ 1000000) (hT1 : ¬ T b1) (hT2 : ¬ T b2) (hT3 : ¬ T b3) :
    CallsV Tryz.prog 170 [.func (.yield ly) #[] #[], .pointer (some ⟨b1, 0, none⟩), .pointer (some ⟨b2, 0, none⟩), .pointer (some ⟨b3, 0, none⟩)] w0 (fun _ w' => ((C (pcs c s) w' ∧ R w') ∨ (EndS (pcs c s) Cf w' ∧ Rf w')) ∧ Upd (fun i => T i ∨ i = b2) w0 w') := by
 have hnb := hH.cell hR0 h2
 have hR : ∀ (_ _ : Unit) W W', R W → Upd (fun i => i = b2) W W' → R W' := fun _ _ W W' h u => hH.keep h u (fun e => hnb.1 e.symm) (fun e => hnb.2 e.symm)
 have hb1l := h1.lt
 have hb2l := h2.lt
 have hb3l := h3.lt
 have hU1 : ¬ (T b1 ∨ b1 = b2) := fun h => h.elim hT1 hn1
 have hU3 : ¬ (T b3 ∨ b3 = b2) := fun h => h.elim hT3 hn3
 have Y0 := Sc.mk (Upd.refl (fun i => T i ∨ i = b2) w0)
 refine f_n func170 ?_
 refine go ?_
 refine t_lenS underlying9 rfl rfl rfl rfl (t_same 10 (v := .int .i64 1) rfl rfl ?_)
 refine go ?_
 refine x_l2 (fun i => T i ∨ i = b2) [0, 1, 2, 3] (fun (p : List (List UInt8)) (r : List UInt8) => []) (fun p r w => Blk w b2 9 [.string (strB r)] ∧ (SqI c s p r) ∧ (C p w) ∧ (R w)) (fun p r => r.length) ([]) s ⟨h2, (SqI.nil c s), hC0, hR0⟩ ?_
 rintro p r w5 ⟨I7, hI, hCk, hRk⟩ u6 zu6 K4 hK4
 have Y8 := Sc.mk (Y0.u.next u6 (fun i hi (h : T i ∨ i = b2) => show T i ∨ i = b2 by first | omega | assumption | exact Or.inl h))
 have hrl := hI.len
 refine go ?_
 refine x_c func154 rfl rfl (index_c r c _) ?_
 rintro _ w11 ⟨rfl, u12⟩ zu12
 have Y14 := Sc.mk (Y8.u.nx u12)
 refine go ?_
 refine q_p (fun g33 => ?_) fun g33 => ?_
 ·
  have hfin := hI.end_ g33
  have hmem : ∃ q, pcs c s = p ++ r :: q := ⟨[], hfin⟩
  refine go ?_
  refine t_yield (vs := [.string (strB r)]) rfl rfl rfl rfl (hH.hand ⟨p, r, w11⟩ _ ⟨(hC _ _ _ hCk ((Upd.refl (fun i => i = b2) _).nx u12)), ⟨hmem, by omega⟩, Upd.refl _ _⟩ (hR () () _ _ hRk ((Upd.refl (fun i => i = b2) _).nx u12))) (by rintro e w' (⟨rfl, _⟩ | ⟨rfl, _⟩) <;> exact ⟨_, rfl⟩) (fun v17 w18 r19 => ?_)
  rcases r19 with ⟨hvr19, hrr19⟩ | ⟨hvr19, hrr19⟩ <;> injection hvr19 with hvr19 <;> subst hvr19
  ·
   obtain ⟨⟨hzC, u20⟩, hzR⟩ := hrr19
   have zu20 := u20.size
   have Y21 := Sc.mk (Y14.u.next u20 (fun i hi (h : T i) => show T i ∨ i = b2 by first | omega | assumption | exact Or.inl h))
   refine go ?_
   refine f_ret0 results170 ?_
   exact ⟨.inl ⟨by rw [hfin]; exact hzC, hzR⟩, Y21.u⟩
  obtain ⟨⟨hzF, u20⟩, hzR⟩ := hrr19
  have zu20 := u20.size
  have Y22 := Sc.mk (Y14.u.next u20 (fun i hi (h : T i) => show T i ∨ i = b2 by first | omega | assumption | exact Or.inl h))
  refine go ?_
  refine f_ret0 results170 ?_
  obtain ⟨q9, hq9⟩ := hmem
  exact ⟨.inr ⟨⟨_, _, q9, hq9, hzF⟩, hzR⟩, Y22.u⟩
 obtain ⟨i, hi⟩ : ∃ i : Nat, Lib.indexByte r c = (i : Int) := ⟨_, (Int.toNat_of_nonneg (by omega)).symm⟩
 obtain ⟨hil, _, _⟩ := pcs_hit hi
 have hmem := hI.mem hi
 refine c_same 7 (v := .int .i64 (i : Int)) rfl (by rw [hi]) ?_
 refine go ?_
 refine t_subS 0 i underlying9 rfl rfl rfl (.inr ⟨rfl, rfl⟩) (k := .i64) (m := 0) (x1 := .tmp 0) (.inl ⟨rfl, rfl, by first | rfl | omega⟩) (by omega) (by omega) (t_same 38 (v := .string (strB (r.take i))) rfl (congrArg (fun z => Value.string (strB z)) (by rw [List.drop_zero, Nat.sub_zero])) ?_)
 refine go ?_
 refine t_yield (vs := [.string (strB (r.take i))]) rfl rfl rfl rfl (hH.hand ⟨p, (r.take i), w11⟩ _ ⟨(hC _ _ _ hCk ((Upd.refl (fun i => i = b2) _).nx u12)), ⟨hmem, by omega⟩, Upd.refl _ _⟩ (hR () () _ _ hRk ((Upd.refl (fun i => i = b2) _).nx u12))) (by rintro e w' (⟨rfl, _⟩ | ⟨rfl, _⟩) <;> exact ⟨_, rfl⟩) (fun v26 w27 r28 => ?_)
 rcases r28 with ⟨hvr28, hrr28⟩ | ⟨hvr28, hrr28⟩ <;> injection hvr28 with hvr28 <;> subst hvr28
 ·
  obtain ⟨⟨hzC, u29⟩, hzR⟩ := hrr28
  have zu29 := u29.size
  have Y30 := Sc.mk (Y14.u.next u29 (fun i hi (h : T i) => show T i ∨ i = b2 by first | omega | assumption | exact Or.inl h))
  refine go ?_
  refine t_lenS underlying9 rfl rfl rfl rfl (t_same 46 (v := .int .i64 1) rfl rfl ?_)
  refine go ?_
  refine t_subS (i + 1) r.length underlying9 rfl rfl rfl (.inl ⟨rfl, rfl, by first | rfl | omega⟩) (.inr ⟨rfl, rfl⟩) (k' := .i64) (n := 0) (x2 := .tmp 0) (by omega) (by omega) (t_same 48 (v := .string (strB (r.drop (i + 1)))) rfl (congrArg (fun z => Value.string (strB z)) (List.take_of_length_le (by rw [List.length_drop]; exact Nat.le_refl _))) ?_)
  refine x_s fun w31 sw31 B33 u32 => ?_
  have Y34 := Sc.mk (Y30.u.next u32 (fun i hi (h : i = b2) => show T i ∨ i = b2 by first | omega | assumption | exact Or.inl h))
  refine go ?_
  exact hK4 (p ++ [r.take i]) (r.drop (i + 1)) ⟨B33, (hI.next hi), (hC _ _ _ hzC ((Upd.refl (fun i => i = b2) _).next u32 (fun i hi (h : i = b2) => show i = b2 by first | omega | assumption))), (hR () () _ _ hzR ((Upd.refl (fun i => i = b2) _).next u32 (fun i hi (h : i = b2) => show i = b2 by first | omega | assumption)))⟩ (hm := (by show (r.drop (i + 1)).length < r.length; rw [List.length_drop]; omega)) (hu := (((u6.nx u12).next u29 (fun i hi (h : T i) => show T i ∨ i = b2 by first | omega | assumption | exact Or.inl h)).next u32 (fun i hi (h : i = b2) => show T i ∨ i = b2 by first | omega | assumption | exact Or.inl h)))
 obtain ⟨⟨hzF, u29⟩, hzR⟩ := hrr28
 have zu29 := u29.size
 have Y35 := Sc.mk (Y14.u.next u29 (fun i hi (h : T i) => show T i ∨ i = b2 by first | omega | assumption | exact Or.inl h))
 refine go ?_
 refine f_ret0 results170 ?_
 obtain ⟨q9, hq9⟩ := hmem
 exact ⟨.inr ⟨⟨_, _, q9, hq9, hzF⟩, hzR⟩, Y35.u⟩

end Go.Proofs.YtjdcpnaocjddoaaGreatDoor
namespace Go.Proofs.YtjdcpnaocjddoaaGreatDoor
open Go Go.RowKit Go.Proofs.Tryz
theorem ResM.agg {P : Program} {ds : List Deferred} {w : World} {L : Slots} {s t b base n : Nat} {t' : TypeId} {cs : List Value} (hm : Marks base ds w) (hl : look s L = some (.pointer (some ⟨b, 0, none⟩))) (ha : ∀ w, (isAgg t).run P w = .ok true w) (hs : ∀ w, (sizeOf t).run P w = .ok n w) (hn : cs.length = n) (hb : Blk w b t' cs) : ResM P ds w L (.cell s t) (.agg cs.toArray) :=
  fun _w' u => ⟨b, 0, hl, run_loadVarN ha hs hn (hb.keep u (hm.notBlk hb)).at⟩
/-- What the reader's variable holds when these seals have come. -/
def BrdC (b0 b2 : Nat) (n c t f o : Int) (wR : World) (pre : List (List UInt8)) (W : World) : Prop :=
  Upd (fun i => i = b0 ∨ i = b2 ∨ wR.heap.size + 1 ≤ i) wR W ∧ ∃ ao g cp, Blk W b0 71 [.int .i64 n, .int .i64 c, .int .i64 t, .int .i64 f, .int .i64 o, .slice ao (pre.map numP).length cp] ∧ Acc encI 1 3 (wR.heap.size + 2) W ao g cp (pre.map numP)
theorem BrdC.upd {b0 b2 : Nat} {n c t f o : Int} {wR : World} (hne : b0 ≠ b2) (hlt : b2 < wR.heap.size) (pre : List (List UInt8)) (W W' : World) (h : BrdC b0 b2 n c t f o wR pre W) (u : Upd (fun i => i = b2) W W') : BrdC b0 b2 n c t f o wR pre W' := by
  obtain ⟨h1, ao, g, cp, h2, h3⟩ := h
  exact ⟨h1.trans (u.mono fun i e => .inr (.inl e)), ao, g, cp, h2.keep u hne, h3.keep u (fun hb e => by omega)⟩
theorem BrdC.ext {b0 b2 : Nat} {n c t f o : Int} {wR : World} (pre : List (List UInt8)) (W W' : World) (h : BrdC b0 b2 n c t f o wR pre W) (u : Ext W W') : BrdC b0 b2 n c t f o wR pre W' := by
  obtain ⟨h1, ao, g, cp, h2, h3⟩ := h
  exact ⟨h1.nx u, ao, g, cp, h2.kx u, h3.keep u (fun _ h => h)⟩
theorem BrdC.turned {b0 b2 : Nat} {n c t f o : Int} {wR : World} : Turned (wR.heap.size + 1) (BrdC b0 b2 n c t f o wR) := fun pre W W' h hl u => by
  obtain ⟨h1, ao, g, cp, h2, h3⟩ := h
  exact ⟨h1.trans (u.mono fun i e => .inr (.inr (by subst e; exact Nat.le_refl _))), ao, g, cp, h2.keep u (h2.notLoop hl), h3.keep u (fun hb e => by omega)⟩
theorem pcs_items : ∀ (c : UInt8) (s : List UInt8), ∀ w ∈ pcs c s, w.length ≤ s.length
  | _, [], w, hw => by
    rw [List.mem_singleton.1 (show w ∈ [[]] from hw)]; exact Nat.le_refl _
  | c, x :: r, w, hw => by
    have ih := pcs_items c r
    have hne := pcs_ne c r
    unfold pcs at hw
    cases hp : pcs c r with
    | nil => exact absurd hp hne
    | cons y t =>
      rw [hp] at ih
      split at hw
      · rcases List.mem_cons.1 hw with rfl | hw
        · exact Nat.zero_le _
        · rw [hp] at hw
          have := ih w hw
          rw [List.length_cons]; omega
      · rw [hp] at hw
        rcases List.mem_cons.1 hw with rfl | hw
        · have := ih y (List.mem_cons_self ..)
          show (y.length + 1) ≤ r.length + 1
          omega
        · have := ih w (List.mem_cons_of_mem _ hw)
          rw [List.length_cons]; omega
theorem pcs_item {c : UInt8} {s : List UInt8} {p : List (List UInt8)} {v : List UInt8} {q : List (List UInt8)} (h : pcs c s = p ++ v :: q) : v.length ≤ s.length := pcs_items c s v (by rw [h]; simp)
theorem pcs_pre {c : UInt8} {s : List UInt8} {p : List (List UInt8)} {v : List UInt8} {q : List (List UInt8)} (h : pcs c s = p ++ v :: q) : (p.map numP).length ≤ s.length := by
  have h1 := pcs_len c s
  rw [h, List.length_append, List.length_cons] at h1
  rw [List.length_map]; omega
theorem cut_len (c : UInt8) (s : List UInt8) : (cutL c s).length ≤ s.length ∧ (cutR c s).length ≤ s.length := by
  have h : (cutL c s).length ≤ s.length := by
    unfold cutL
    cases hp : pcs c s with
    | nil => exact Nat.zero_le _
    | cons y t => exact pcs_items c s y (by rw [hp]; exact List.mem_cons_self ..)
  refine ⟨h, ?_⟩
  unfold cutR
  rw [List.length_drop]; omega

set_option maxRecDepth 20000 in
set_option maxHeartbeats 4000000 in
theorem bread_c (ws : List (List UInt8)) (aw : Option Addr) (bw ow cw : Nat) (w0 : World) (hs : Sl encStr 1 w0 aw bw ow ws) (_hwl : ws.length ≤ 1000000) (hwm : ∀ x ∈ ws, x.length ≤ 900000) (hE : ErrV w0) (hpos : 0 < w0.heap.size) :
    CallsV Tryz.prog 115 [.slice aw ws.length cw] w0 (fun v w' => (∃ y : Bil, v = .agg (encBil y).toArray ∧ y.bare = parB ws ∧ y.ob = 0 ∧ y.s.length ≤ 17592186044416 ∧ Acc encI 1 3 w0.heap.size w' y.ao y.g y.cp y.s) ∧ Ext w0 w') := by
 refine f_enterM (N := 53) func115 rfl rfl rfl (q_of ?_)
 refine go ?_
 refine x_n fun bk2 w3 ebk2 sbk2 B4 u5 => ?_
 have E6 := Sc.mk ((Upd.refl (fun _ => False) w0).nx u5)
 refine go ?_
 refine q_p (fun g9 => ?_) fun g9 => ?_
 ·
  refine go ?_
  refine x_s fun w10 sw10 B12 u11 => ?_
  refine go ?_
  have D16 := (((show Marks w0.heap.size [] w0 from trivial).keep u5 (CellsIn.none _)).keep u11 (B4).cellsIn)
  have hmkE := D16
  refine f_retMc1 (v := .agg #[.int .i64 0, .int .i64 0, .int .i64 0, .int .i64 0, .int .i64 0, .slice none 0 0]) results115 (.agg D16 rfl isAgg71 sizeOf71 rfl B12) D16 (fun w14 u15 omw14 => ?_)
  have zu15 := u15.size
  exact ⟨⟨bil0, rfl, by unfold parB; rw [if_pos (by omega)]; rfl, rfl, by decide, Acc.nil _ _ _ _ _ hpos (by omega)⟩, ((E6.u.next u11 (fun i hi h => by omega)).next u15 (fun i hi (h : w0.heap.size ≤ i) => show False by first | omega | assumption))⟩
 have hl0 : (nth ws 0).length ≤ 900000 := hwm _ (nth_mem (by omega))
 have hl1 : (nth ws 1).length ≤ 900000 := hwm _ (nth_mem (by omega))
 have hl2 : (nth ws 2).length ≤ 900000 := hwm _ (nth_mem (by omega))
 have hl3 : (nth ws 3).length ≤ 900000 := hwm _ (nth_mem (by omega))
 have hl4 : (nth ws 4).length ≤ 900000 := hwm _ (nth_mem (by omega))
 have hcl := cut_len 62 (nth ws 3)
 have hblt := hs.lt (show 0 < ws.length by omega)
 refine go ?_
 refine g_i 3 (hs.keep E6.u (fun _ h => h)) (fun _ => ?_)
 refine go ?_
 refine x_c func116 rfl rfl (cut_c (nth ws 3) 62 _ (by omega)) ?_
 rintro _ w21 ⟨rfl, u22⟩ zu22
 refine go ?_
 refine c_drawnM follows (fun i => i = bk2) (OTl [0, 2, 4, 8, 10, 12, 16, 18, 20, 24, 28, 7, 15, 23, 27, 31, 32, 35]) (by kernel_rfl) fun w26 u27 => ?_
 have zu27 := u27.size
 have E28 := Sc.mk ((E6.u.nx u22).nx u27)
 refine go ?_
 refine y_i 0 (hs.keep E28.u (fun _ h => h)) (fun _ => ?_)
 refine go ?_
 refine y_i 1 (hs.keep E28.u (fun _ h => h)) (fun _ => ?_)
 refine go ?_
 refine y_i 2 (hs.keep E28.u (fun _ h => h)) (fun _ => ?_)
 refine go ?_
 refine x_c func117 rfl rfl (numb_c (nth ws 0) _ (by omega) (hE.ext E28.u)) ?_
 rintro _ w33 ⟨rfl, u34⟩ zu34
 have E36 := Sc.mk (E28.u.nx u34)
 refine go ?_
 refine x_c func117 rfl rfl (numb_c (nth ws 1) _ (by omega) (hE.ext E36.u)) ?_
 rintro _ w38 ⟨rfl, u39⟩ zu39
 have E41 := Sc.mk (E36.u.nx u39)
 refine go ?_
 refine x_c func117 rfl rfl (numb_c (nth ws 2) _ (by omega) (hE.ext E41.u)) ?_
 rintro _ w43 ⟨rfl, u44⟩ zu44
 have E46 := Sc.mk (E41.u.nx u44)
 refine go ?_
 refine x_c func117 rfl rfl (numb_c (cutL 62 (nth ws 3)) _ (by omega) (hE.ext E46.u)) ?_
 rintro _ w48 ⟨rfl, u49⟩ zu49
 have E51 := Sc.mk (E46.u.nx u49)
 refine go ?_
 refine x_c func117 rfl rfl (numb_c (cutR 62 (nth ws 3)) _ (by omega) (hE.ext E51.u)) ?_
 rintro _ w53 ⟨rfl, u54⟩ zu54
 refine go ?_
 have B57 := (((((((B4.kx u22).kx u27).kx u34).kx u39).kx u44).kx u49).kx u54)
 refine x_s fun w58 sw58 B60 u59 => ?_
 have E61 := Sc.mk ((E51.u.nx u54).next u59 (fun i hi h => by omega))
 refine go ?_
 refine g_i 4 (hs.keep E61.u (fun _ h => h)) (fun _ => ?_)
 refine go ?_
 refine t_bo (Bo.neS (nth ws 4) ([45])) rfl rfl rfl rfl ?_
 refine go ?_
 refine q_p (fun g39 => ?_) fun g39 => ?_
 ·
  refine go ?_
  refine g_i 4 (hs.keep E61.u (fun _ h => h)) (fun _ => ?_)
  refine go ?_
  refine x_c func118 rfl rfl (SplitSeq_c (nth ws 4) 44 _) ?_
  rintro _ w68 ⟨⟨b1, b2, b3, rfl, hg1, hg2, hg3, hn1, hn3, hb1, hb2, hb3⟩, u69⟩ zu69
  have E71 := Sc.mk (E61.u.nx u69)
  have lb1 := hb1.lt
  have lb2 := hb2.lt
  have lb3 := hb3.lt
  refine go ?_
  have B72 := (B60.kx u69)
  have lw0 := B72.lt
  have lw1 := hb1.lt
  have lw2 := hb2.lt
  have lw3 := hb3.lt
  refine WC.weak [(2, .pointer (some ⟨bk2, 0, none⟩)), (43, .func (.func 170) #[] #[.pointer (some ⟨b1, 0, none⟩), .pointer (some ⟨b2, 0, none⟩), .pointer (some ⟨b3, 0, none⟩)])] ⟨rfl, rfl, trivial⟩ (c_rangeL (γ := StX) (δ := Unit) (lb := [.pointer (some ⟨b1, 0, none⟩), .pointer (some ⟨b2, 0, none⟩), .pointer (some ⟨b3, 0, none⟩)]) (enc := encStX) own170 rfl rfl (YSt (pcs 44 (nth ws 4)) w68.heap.size (BrdC bk2 b2 (numP (nth ws 0)) (numP (nth ws 1)) (numP (nth ws 2)) (numP (cutL 62 (nth ws 3))) (numP (cutR 62 (nth ws 3))) w68)) (ZSt (fun i => i = bk2 ∨ w68.heap.size + 1 ≤ i) (BrdC bk2 b2 (numP (nth ws 0)) (numP (nth ws 1)) (numP (nth ws 2)) (numP (cutL 62 (nth ws 3))) (numP (cutR 62 (nth ws 3))) w68)) (FSt (fun i => i = bk2 ∨ w68.heap.size + 1 ≤ i) (fun _ _ => False)) (BrdC bk2 b2 (numP (nth ws 0)) (numP (nth ws 1)) (numP (nth ws 2)) (numP (cutL 62 (nth ws 3))) (numP (cutR 62 (nth ws 3))) w68 (pcs 44 (nth ws 4))) (EndS (pcs 44 (nth ws 4)) (fun _ _ => False)) (ZSt.turned BrdC.turned (by simp)) (FSt.turned (fun _ _ _ h => h.elim) (by simp)) (fun _ W W' h hl u => BrdC.turned _ W W' h hl u) (EndS.turned (D := w68.heap.size) (fun _ _ _ h => h.elim)) ?_ (fun x d => [(2, .pointer (some ⟨bk2, 0, none⟩)), (6, .string (strB x.v))]) (fun x (d : Unit) W => YSt (pcs 44 (nth ws 4)) w68.heap.size (BrdC bk2 b2 (numP (nth ws 0)) (numP (nth ws 1)) (numP (nth ws 2)) (numP (cutL 62 (nth ws 3))) (numP (cutR 62 (nth ws 3))) w68) x W) (fun d => YSt.turned BrdC.turned) ?_ ?_ ?_ ?_)
  ·
   intro l_ D R Rf W hD hl_ hsz hE1 hH hR
   subst hD hl_
   refine (splitSeq1_c (nth ws 4) 44 b1 b2 b3 _ _ (fun i => i = bk2 ∨ w68.heap.size + 1 ≤ i) (BrdC bk2 b2 (numP (nth ws 0)) (numP (nth ws 1)) (numP (nth ws 2)) (numP (cutL 62 (nth ws 3))) (numP (cutR 62 (nth ws 3))) w68) (fun _ _ => False) R Rf W (fun p W W' h u => BrdC.upd (by omega) (by omega) p W W' h u) hH rfl (by omega) hR ⟨Ext.to hE1, none, 0, 0, B72.kx hE1, Acc.nil _ _ _ _ _ (by omega) (by omega)⟩ (hb1.kx hE1) (hb2.kx hE1) (hb3.kx hE1) hn1 hn3 (by omega) (show ¬ (b1 = bk2 ∨ w68.heap.size + 1 ≤ b1) by omega) (show ¬ (b2 = bk2 ∨ w68.heap.size + 1 ≤ b2) by omega) (show ¬ (b3 = bk2 ∨ w68.heap.size + 1 ≤ b3) by omega)).mono fun _ _ h => h.1
  ·
   intro lq x W K73 hI hK73
   change WC _ _ _ _ _ _ [(44, .string (strB x.v)), (2, .pointer (some ⟨bk2, 0, none⟩)), (43, .func (.func 170) #[] #[.pointer (some ⟨b1, 0, none⟩), .pointer (some ⟨b2, 0, none⟩), .pointer (some ⟨b3, 0, none⟩)])] _
   refine (q_of ?_)
   have E000 := Sc.mk (Upd.refl (fun _ => False) W)
   obtain ⟨_, ⟨hrg, hDW⟩, hux⟩ := id hI
   refine go ?_
   exact hK73 () _ _ ⟨rfl, rfl, trivial⟩ E000.u ⟨BrdC.ext _ _ _ hI.1 E000.u, ⟨hrg, by have := (E000.u).size; omega⟩, hux.nx E000.u⟩
  ·
   intro lq x d w74 hY
   obtain ⟨⟨hu0, ao2, g2, c2, hc0, hac⟩, ⟨⟨r9, hr9⟩, hDW⟩, hux⟩ := hY
   have hc0l := hc0.lt
   have hvl := pcs_item hr9
   have hql := pcs_pre hr9
   have zhu0 := hu0.size
   have lt_g2 := hac.lt
   have hbg : w68.heap.size + 2 ≤ g2 → g2 ≠ bk2 := fun h => by omega
   change WC _ _ _ _ _ _ [(2, .pointer (some ⟨bk2, 0, none⟩)), (6, .string (strB x.v))] _
   refine (q_of ?_)
   have hcellsR := ((hc0).cellsIn.or (hac).cellsIn)
   refine go ?_
   refine c_drawnM follows (fun i => (i = g2 ∧ (w68.heap.size + 2) ≤ i) ∨ i = bk2) (.look 0 (.look 2 (.act 1 (.act 3 (.act 4 (.act 5 (.look 6 (.act 7 .done .stop)) .stop) .stop) .stop) (.act 3 (.act 1 (.act 4 (.act 5 (.look 6 (.act 7 .done .stop)) .stop) .stop) (.act 4 (.act 1 (.act 5 (.look 6 (.act 7 .done .stop)) .stop) .stop) .stop)) .stop)))) (by kernel_rfl) fun w76 u77 => ?_
   have zu77 := u77.size
   have E78 := Sc.mk ((E71.u.next hu0 (fun i hi (h : i = bk2 ∨ i = b2 ∨ w68.heap.size + 1 ≤ i) => show False by first | omega | assumption)).nx u77)
   refine go ?_
   refine s_or ?_ ?_
   ·
    refine go ?_
    refine x_c func117 rfl rfl (numb_c x.v _ (by omega) (hE.ext E78.u)) ?_
    rintro _ w80 ⟨rfl, u81⟩ zu81
    refine go ?_
    refine x_l fun bk84 w85 ebk84 sbk84 B86 u87 => ?_
    refine go ?_
    have D89 := (((hac.keep u77 (fun _ h => h)).keep u81 (fun _ h => h)).keep u87 (fun _ h => h))
    refine t_append (z := .int .i64 0) (bytes := 8) (k := 1) (base := (w68.heap.size + 2)) (numP x.v) underlying59 (by kernel_rfl) rfl (by decide) (fun _ => rfl) (by intro x; simp [encI, Value.oneCell']) rfl rfl rfl rfl D89 B86 (by omega) (by omega) (by decide) (fun ao90 gb91 cp92 w93 A94 u95 gegb91 lngb91 => ?_)
    have zu95 := u95.size
    have lt_gb91 := A94.lt
    refine go ?_
    refine x_s fun w98 sw98 B100 u99 => ?_
    refine go ?_
    have hUr := ((((((Upd.refl (fun i => i = bk2 ∨ (i = g2 ∧ (w68.heap.size + 2) ≤ i)) w74).nx u77).nx u81).nx u87).next u95 (fun i hi h => by omega)).next u99 (fun i hi h => by omega))
    have D102 := (A94.keep u99 (fun hb => show ¬ (gb91 = bk2) by first | omega | assumption))
    exact ⟨fun a ha => ⟨KeepsFrom.of_upd hUr hcellsR, ⟨⟨(((((hu0.nx u77).nx u81).nx u87).next u95 (fun i hi (h : (i = g2 ∧ (w68.heap.size + 2) ≤ i)) => show i = bk2 ∨ i = b2 ∨ w68.heap.size + 1 ≤ i by omega)).next u99 (fun i hi (h : i = bk2) => show i = bk2 ∨ i = b2 ∨ w68.heap.size + 1 ≤ i by omega)), ao90, gb91, cp92, by rw [List.map_append]; exact B100, by rw [List.map_append]; exact D102⟩, ((hux.mono fun i e => .inr (by subst e; exact Nat.le_refl _)).trans ((((((Upd.refl (fun i => i = bk2 ∨ w68.heap.size + 1 ≤ i) _).nx u77).nx u81).nx u87).next u95 (fun i hi (h : (i = g2 ∧ (w68.heap.size + 2) ≤ i)) => show i = bk2 ∨ w68.heap.size + 1 ≤ i by omega)).next u99 (fun i hi (h : i = bk2) => show i = bk2 ∨ w68.heap.size + 1 ≤ i by omega)))⟩⟩⟩
   refine go ?_
   refine x_c func117 rfl rfl (numb_c x.v _ (by omega) (hE.ext E78.u)) ?_
   rintro _ w104 ⟨rfl, u105⟩ zu105
   refine go ?_
   refine s_or ?_ ?_
   ·
    refine go ?_
    refine x_l fun bk108 w109 ebk108 sbk108 B110 u111 => ?_
    refine go ?_
    have D113 := (((hac.keep u77 (fun _ h => h)).keep u105 (fun _ h => h)).keep u111 (fun _ h => h))
    refine t_append (z := .int .i64 0) (bytes := 8) (k := 1) (base := (w68.heap.size + 2)) (numP x.v) underlying59 (by kernel_rfl) rfl (by decide) (fun _ => rfl) (by intro x; simp [encI, Value.oneCell']) rfl rfl rfl rfl D113 B110 (by omega) (by omega) (by decide) (fun ao114 gb115 cp116 w117 A118 u119 gegb115 lngb115 => ?_)
    have zu119 := u119.size
    have lt_gb115 := A118.lt
    refine go ?_
    refine x_s fun w122 sw122 B124 u123 => ?_
    refine go ?_
    have hUr := ((((((Upd.refl (fun i => i = bk2 ∨ (i = g2 ∧ (w68.heap.size + 2) ≤ i)) w74).nx u77).nx u105).nx u111).next u119 (fun i hi h => by omega)).next u123 (fun i hi h => by omega))
    have D126 := (A118.keep u123 (fun hb => show ¬ (gb115 = bk2) by first | omega | assumption))
    exact ⟨fun a ha => ⟨KeepsFrom.of_upd hUr hcellsR, ⟨⟨(((((hu0.nx u77).nx u105).nx u111).next u119 (fun i hi (h : (i = g2 ∧ (w68.heap.size + 2) ≤ i)) => show i = bk2 ∨ i = b2 ∨ w68.heap.size + 1 ≤ i by omega)).next u123 (fun i hi (h : i = bk2) => show i = bk2 ∨ i = b2 ∨ w68.heap.size + 1 ≤ i by omega)), ao114, gb115, cp116, by rw [List.map_append]; exact B124, by rw [List.map_append]; exact D126⟩, ((hux.mono fun i e => .inr (by subst e; exact Nat.le_refl _)).trans ((((((Upd.refl (fun i => i = bk2 ∨ w68.heap.size + 1 ≤ i) _).nx u77).nx u105).nx u111).next u119 (fun i hi (h : (i = g2 ∧ (w68.heap.size + 2) ≤ i)) => show i = bk2 ∨ w68.heap.size + 1 ≤ i by omega)).next u123 (fun i hi (h : i = bk2) => show i = bk2 ∨ w68.heap.size + 1 ≤ i by omega)))⟩⟩⟩
   refine go ?_
   refine x_l fun bk127 w128 ebk127 sbk127 B129 u130 => ?_
   refine go ?_
   have D132 := (((hac.keep u77 (fun _ h => h)).keep u105 (fun _ h => h)).keep u130 (fun _ h => h))
   refine t_append (z := .int .i64 0) (bytes := 8) (k := 1) (base := (w68.heap.size + 2)) (numP x.v) underlying59 (by kernel_rfl) rfl (by decide) (fun _ => rfl) (by intro x; simp [encI, Value.oneCell']) rfl rfl rfl rfl D132 B129 (by omega) (by omega) (by decide) (fun ao133 gb134 cp135 w136 A137 u138 gegb134 lngb134 => ?_)
   have zu138 := u138.size
   have lt_gb134 := A137.lt
   refine go ?_
   refine x_s fun w141 sw141 B143 u142 => ?_
   refine go ?_
   have hUr := ((((((Upd.refl (fun i => i = bk2 ∨ (i = g2 ∧ (w68.heap.size + 2) ≤ i)) w74).nx u77).nx u105).nx u130).next u138 (fun i hi h => by omega)).next u142 (fun i hi h => by omega))
   have D145 := (A137.keep u142 (fun hb => show ¬ (gb134 = bk2) by first | omega | assumption))
   exact ⟨fun a ha => ⟨KeepsFrom.of_upd hUr hcellsR, ⟨⟨(((((hu0.nx u77).nx u105).nx u130).next u138 (fun i hi (h : (i = g2 ∧ (w68.heap.size + 2) ≤ i)) => show i = bk2 ∨ i = b2 ∨ w68.heap.size + 1 ≤ i by omega)).next u142 (fun i hi (h : i = bk2) => show i = bk2 ∨ i = b2 ∨ w68.heap.size + 1 ≤ i by omega)), ao133, gb134, cp135, by rw [List.map_append]; exact B143, by rw [List.map_append]; exact D145⟩, ((hux.mono fun i e => .inr (by subst e; exact Nat.le_refl _)).trans ((((((Upd.refl (fun i => i = bk2 ∨ w68.heap.size + 1 ≤ i) _).nx u77).nx u105).nx u130).next u138 (fun i hi (h : (i = g2 ∧ (w68.heap.size + 2) ≤ i)) => show i = bk2 ∨ w68.heap.size + 1 ≤ i by omega)).next u142 (fun i hi (h : i = bk2) => show i = bk2 ∨ w68.heap.size + 1 ≤ i by omega)))⟩⟩⟩
  ·
   intro D w hD hE hd
   obtain ⟨_, _, _, _, hE⟩ := hE
   exact hE.elim
  ·
   have D148 := (((((((((((show Marks w0.heap.size [] w0 from trivial).keep u5 (CellsIn.none _)).keep u22 (CellsIn.none _)).keep u27 (CellsIn.none _)).keep u34 (CellsIn.none _)).keep u39 (CellsIn.none _)).keep u44 (CellsIn.none _)).keep u49 (CellsIn.none _)).keep u54 (CellsIn.none _)).keep u59 (B57).cellsIn).keep u69 (CellsIn.none _))
   have hmk0 := D148
   have hmc0 := (show CellsIn (fun i => i = bk2 ∨ i = b2 ∨ w68.heap.size + 1 ≤ i) w68 from fun k hk e => by
     rcases e with rfl | rfl | e
     · exact ⟨_, _, _, B72⟩
     · exact ⟨_, _, _, hb2⟩
     · omega)
   intro D147 w146 hD147 hE hdD147
   obtain ⟨hu1, ao2, g2, c2, hc0, hac⟩ := hE
   have zhu1 := hu1.size
   have lt_g2 := hac.lt
   have mk150 := (hmk0.keep hu1 hmc0).push (D := D147) (by omega) hdD147 (fun d hd D' e => Nat.lt_of_lt_of_le (hmk0.lt d hd D' e) hD147)
   refine go ?_
   refine x_s fun w152 sw152 B154 u153 => ?_
   refine go ?_
   have D156 := (hac.keep u153 (fun hb => show ¬ (g2 = bk2) by first | omega | assumption))
   have D159 := (mk150.keep u153 (hc0).cellsIn)
   have hmkE := D159
   refine f_retMc1 (v := .agg #[.int .i64 (numP (nth ws 0)), .int .i64 (numP (nth ws 1)), .int .i64 (numP (nth ws 2)), .int .i64 (numP (cutL 62 (nth ws 3))), .int .i64 (numP (cutR 62 (nth ws 3))), .slice ao2 (((pcs 44 (nth ws 4)).map numP).length) c2]) results115 (.agg D159 rfl isAgg71 sizeOf71 rfl B154) D159 (fun w157 u158 omw157 => ?_)
   have zu158 := u158.size
   have h5 : ws.length = 5 := by omega
   have h45 : ¬ nth ws 4 = [45] := g39
   have hacW := D156.keep omw157 (fun hb9 hd9 => by
     rcases (D156).at_ with ⟨_, _, _, h6⟩ | ⟨_, _, cur, h7, _⟩
     · omega
     · exact hmkE.notCells h7 hd9)
   obtain ⟨g9, hac9⟩ := hacW.lower (base' := w0.heap.size) (by omega) hpos
   exact ⟨⟨⟨(numP (nth ws 0)), (numP (nth ws 1)), (numP (nth ws 2)), (numP (cutL 62 (nth ws 3))), (numP (cutR 62 (nth ws 3))), (pcs 44 (nth ws 4)).map numP, ao2, g9, 0, c2⟩, rfl, by unfold parB; rw [if_neg (fun h => h h5), if_neg h45]; rfl, rfl, by show (List.map numP _).length ≤ _; rw [List.length_map]; have h9 := pcs_len 44 (nth ws 4); omega, hac9⟩, (((E71.u.next hu1 (fun i hi (h : i = bk2 ∨ i = b2 ∨ w68.heap.size + 1 ≤ i) => show False by first | omega | assumption)).next u153 (fun i hi h => by omega)).next u158 (fun i hi (h : w0.heap.size ≤ i) => show False by first | omega | assumption))⟩
 refine go ?_
 refine x_s fun w162 sw162 B164 u163 => ?_
 refine go ?_
 have D168 := (((((((((((show Marks w0.heap.size [] w0 from trivial).keep u5 (CellsIn.none _)).keep u22 (CellsIn.none _)).keep u27 (CellsIn.none _)).keep u34 (CellsIn.none _)).keep u39 (CellsIn.none _)).keep u44 (CellsIn.none _)).keep u49 (CellsIn.none _)).keep u54 (CellsIn.none _)).keep u59 (B57).cellsIn).keep u163 (B60).cellsIn)
 have hmkE := D168
 refine f_retMc1 (v := .agg #[.int .i64 (numP (nth ws 0)), .int .i64 (numP (nth ws 1)), .int .i64 (numP (nth ws 2)), .int .i64 (numP (cutL 62 (nth ws 3))), .int .i64 (numP (cutR 62 (nth ws 3))), .slice none 0 0]) results115 (.agg D168 rfl isAgg71 sizeOf71 rfl B164) D168 (fun w166 u167 omw166 => ?_)
 have zu167 := u167.size
 have h5 : ws.length = 5 := by omega
 have h45 : nth ws 4 = [45] := by first | exact Decidable.not_not.1 g39 | exact g39
 exact ⟨⟨⟨(numP (nth ws 0)), (numP (nth ws 1)), (numP (nth ws 2)), (numP (cutL 62 (nth ws 3))), (numP (cutR 62 (nth ws 3))), [], none, 0, 0, 0⟩, rfl, by unfold parB; rw [if_neg (fun h => h h5), if_pos h45]; rfl, rfl, (Nat.zero_le _), Acc.nil _ _ _ _ _ hpos (by omega)⟩, ((E61.u.next u163 (fun i hi h => by omega)).next u167 (fun i hi (h : w0.heap.size ≤ i) => show False by first | omega | assumption))⟩

end Go.Proofs.YtjdcpnaocjddoaaGreatDoor
