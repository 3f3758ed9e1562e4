/-
  Part 15 of the proof: contracts and plain laws. Conditions: none.
-/
import Derived.Shelf.SlSortCmp.WholeK
import Derived.Shelf.SlSortCmp.NoneTotal
import Derived.Test.YtagmkfbbhfaceaaGreatDoorCK14
namespace Go.Proofs.YtagmkfbbhfaceaaGreatDoor
open Go Go.RowKit Go.Proofs.Tryz
set_option maxRecDepth 10000

structure Hull where
  len : Int
  wid : Int
  mass : Int
instance : Inhabited Hull := ⟨⟨default, default, default⟩⟩
structure Bnd where
  lo : Int
  hi : Int
instance : Inhabited Bnd := ⟨⟨default, default⟩⟩
structure Row where
  long : Int
  wide : Int
  mass : Int
structure Run where
  frm : Int
  to : Int
  sp : Bnd
  wt : Bnd
instance : Inhabited Run := ⟨⟨default, default, default, default⟩⟩
structure Voy where
  st : Bnd
  runs : List Run
  len : Int
  wid : Int
instance : Inhabited Voy := ⟨⟨default, default, default, default⟩⟩
structure Nar where
  frm : Int
  to : Int
  wid : Int
  single : Bool
instance : Inhabited Nar := ⟨⟨default, default, default, default⟩⟩
/-- A run whose numbers are in range. -/
def rngRun (r : Run) : Prop := (0 ≤ r.frm ∧ r.frm ≤ 100000) ∧ (0 ≤ r.to ∧ r.to ≤ 100000) ∧ (1 ≤ r.sp.lo ∧ r.sp.lo ≤ 400) ∧ (1 ≤ r.sp.hi ∧ r.sp.hi ≤ 400) ∧ (0 ≤ r.wt.lo ∧ r.wt.lo ≤ 5000) ∧ (0 ≤ r.wt.hi ∧ r.wt.hi ≤ 5000)
structure RVoy (v : Voy) : Prop where
  pos : 0 < v.runs.length
  few : v.runs.length ≤ 1000
  run : ∀ r ∈ v.runs, rngRun r
  st : (-1000000000 ≤ v.st.lo ∧ v.st.lo ≤ 1000000000) ∧ (-1000000000 ≤ v.st.hi ∧ v.st.hi ≤ 1000000000)
  len : 0 ≤ v.len ∧ v.len ≤ 100000
  wid : 0 ≤ v.wid ∧ v.wid ≤ 100000
structure RNar (n : Nar) : Prop where
  frm : 0 ≤ n.frm ∧ n.frm ≤ 100000
  to : 0 ≤ n.to ∧ n.to ≤ 100000
  wid : 0 ≤ n.wid ∧ n.wid ≤ 100000
def tail (v : Voy) : Int := (v.len + 100 - 1) / 100
structure Stay where
  inn : Bnd
  out : Bnd
  there : Bool
instance : Inhabited Stay := ⟨⟨default, default, default⟩⟩
end Go.Proofs.YtagmkfbbhfaceaaGreatDoor
namespace Go.Proofs.YtagmkfbbhfaceaaGreatDoor
open Go Go.RowKit Go.Proofs.Tryz
set_option maxRecDepth 10000
structure RB (m p g s : Int) : Prop where
  m : 0 ≤ m ∧ m ≤ 400000
  p : 1 ≤ p ∧ p ≤ 20000
  g : 1 ≤ g ∧ g ≤ 1000
  s : 0 ≤ s ∧ s ≤ 500
structure HRow where
  ao : Option Addr
  b : Nat
  o : Nat
  cap : Nat
  xs : List Hull
instance : Inhabited HRow := ⟨⟨default, default, default, default, default⟩⟩
structure Size where
  len : Int
  wid : Int
  mass : Int
  hulls : Int
instance : Inhabited Size := ⟨⟨default, default, default, default⟩⟩
def addH (r : Row) (h : Hull) : Row := ⟨max r.long h.len, r.wide + h.wid, r.mass + h.mass⟩
def rowOf (xs : List Hull) : Row := xs.foldl addH ⟨0, 0, 0⟩
def addRow (s : Size) (xs : List Hull) : Size := ⟨s.len + (rowOf xs).long, max s.wid (rowOf xs).wide, s.mass + (rowOf xs).mass, s.hulls + xs.length⟩
def sizeTow (boat : Hull) (rows : List (List Hull)) : Size := rows.foldl addRow ⟨boat.len, boat.wid, boat.mass, 0⟩
end Go.Proofs.YtagmkfbbhfaceaaGreatDoor
namespace Go.Proofs.YtagmkfbbhfaceaaGreatDoor
open Go Go.RowKit Go.Proofs.Tryz
set_option maxRecDepth 10000
section
variable {P : Program} {ops : Array Oper} {Q : Exit → Act → World → Prop} {N : Nat} {ds : List Deferred} {rest : List Oper} {L : Slots} {w : World} {rd : Option Nat} {d : Nat} {ty : TypeId} {pos : String} {aft : Array Edge} {gd : Option (Nat × Bool)}
end
structure Bnd2 where
  lo : Int
  hi : Int
instance : Inhabited Bnd2 := ⟨⟨default, default⟩⟩
end Go.Proofs.YtagmkfbbhfaceaaGreatDoor
namespace Go.Proofs.YtagmkfbbhfaceaaGreatDoor
open Go Go.RowKit Go.Proofs.Tryz
set_option maxRecDepth 10000
end Go.Proofs.YtagmkfbbhfaceaaGreatDoor
namespace Go.Proofs.YtagmkfbbhfaceaaGreatDoor
open Go Go.RowKit Go.Proofs.Tryz
set_option maxRecDepth 10000
theorem kn_i0 : Lib.itoa 0 = [48] := by simp [Lib.itoa, Lib.decDigits]
def knG (b : Nat) : Gau := ⟨0, 0, [0], some ⟨b, 0, none⟩, b, 0, 1⟩
theorem kn_wrd (b : Nat) : wrdG (knG b) = [[48], [48], [48]] := by
  show [Lib.itoa 0, Lib.itoa 0, Lib.itoa 0] = _
  rw [kn_i0]
theorem kn_gau (b : Nat) : ∃ t : List UInt8, textG [knG b] = (t, 0) ∧ t.length = 9 ∧ t.take 6 = [48, 32, 48, 32, 48, 32] := by
  refine ⟨sealedP [[48], [48], [48]], ?_, by kernel_rfl, by kernel_rfl⟩
  have hc : chkGa none [knG b] = 0 := by kernel_rfl
  have e : [knG b].flatMap gauP = gauP (knG b) := by simp
  unfold textG
  rw [if_neg (by simp), if_pos hc, e]
  unfold gauP
  rw [kn_wrd]
theorem knGau_c (b b2 : Nat) (w0 : World) (hT : Tab10 w0) (hB2 : Blk w0 b2 3 [.int .i64 0]) (hB : Blk w0 b 87 [.int .i64 0, .int .i64 0, .slice (some ⟨b2, 0, none⟩) 1 1]) : CallsV Tryz.prog 24 [.slice (some ⟨b, 0, none⟩) 1 1] w0 fun v w' => (∃ t : List UInt8, v = .tuple #[.string (strB t), .int .i64 0] ∧ t.length = 9 ∧ t.take 6 = [48, 32, 48, 32, 48, 32]) ∧ Ext w0 w' := by
  obtain ⟨t, h1, h2, h3⟩ := kn_gau b2
  have h := WriteGauge_c [knG b2] (some ⟨b, 0, none⟩) b 0 1 w0 (Sl.ofBlk (enc := encGau) (k := 3) (xs := [knG b2]) (fun _ => rfl) hB) (fun x hx => by rw [List.mem_singleton.1 hx]; exact ⟨SlI.own (xs := [0]) hB2, by show 1 ≤ 1; decide, by show 1 ≤ 17592186044416; decide⟩) (by simp) hT (by have := hB.lt; omega)
  rw [h1] at h
  exact CallsV.mono h (fun v w' ⟨e, u⟩ => ⟨⟨t, e, h2, h3⟩, u⟩)

theorem knownLogs_c  (w0 : World) (hT : Tab10 w0) (_hpos : 0 < w0.heap.size) :
    CallsV Tryz.prog 8 [] w0 (fun v w' => v = .bool true ∧ Ext w0 w') := by
 have hl64 : (logP knE1).length = 64 := kn_log2.1
 refine f_n func8 ?_
 refine go ?_
 refine x_l fun bk3 w4 ebk3 sbk3 B5 u6 => ?_
 refine x_c func9 rfl rfl (knLog_c bk3 _ B5) ?_
 rintro _ w9 ⟨⟨a9, g9, c9, rfl, hF9⟩, u10⟩ zu10
 have lt_g9 := hF9.lt
 refine go ?_
 refine x_l fun bk14 w15 ebk14 sbk14 B16 u17 => ?_
 refine go ?_
 refine x_l fun bk19 w20 ebk19 sbk19 B21 u22 => ?_
 have B24 := (B16.kx u22)
 refine x_c func24 rfl rfl (knGau_c bk19 bk14 _ (hT.ext (((((Upd.refl (fun _ => False) w0).nx u6).nx u10).nx u17).nx u22)) B24 B21) ?_
 rintro _ w26 ⟨⟨t9, rfl, ht9, ht6⟩, u27⟩ zu27
 refine go ?_
 have D31 := (((hF9.keep u17 (fun _ h => h)).keep u22 (fun _ h => h)).keep u27 (fun _ h => h))
 refine g_i 0 (D31.sl (fun _ => rfl)) (fun _ => ?_)
 refine st1 ?_
 refine t_same 32 (v := .int .u8 142) rfl (by rw [kn_log2.2.1]; rfl) ?_
 refine go ?_
 refine g_i 31 (D31.sl (fun _ => rfl)) (fun _ => ?_)
 refine st1 ?_
 refine t_same 38 (v := .int .u8 14) rfl (by rw [kn_log2.2.2.2.2.1]; rfl) ?_
 refine go ?_
 refine t_lenS underlying9 rfl rfl rfl rfl (t_same 43 (v := .int .i64 9) rfl (congrArg (fun n : Nat => Value.int .i64 (n : Int)) ht9) ?_)
 refine go ?_
 refine t_subS 0 6 underlying9 rfl rfl rfl (.inr ⟨rfl, rfl⟩) (k := .i64) (m := 0) (x1 := .tmp 0) (.inl ⟨rfl, rfl, by first | rfl | omega⟩) (by omega) (by omega) (t_bo (Bo.eqS (((t9).drop 0).take (6 - 0)) ([48, 32, 48, 32, 48, 32])) rfl rfl rfl rfl (t_same 49 (v := .bool true) rfl (congrArg Value.bool (decide_eq_true (by exact ht6))) ?_))
 refine go ?_
 refine f_1 results8 ?_
 exact ⟨rfl, u_d⟩

end Go.Proofs.YtagmkfbbhfaceaaGreatDoor
namespace Go.Proofs.YtagmkfbbhfaceaaGreatDoor
open Go Go.RowKit Go.Proofs.Tryz
set_option maxRecDepth 10000

/-- The sum of the first weights. -/
def preS (ws : List Int) : Nat → Int
  | 0 => 0
  | k + 1 => preS ws k + nth ws k
/-- The share of a weight, and the first shares. -/
def spK (n a : Int) (ws : List Int) (k : Nat) : Int := n * preS ws (k + 1) / a - n * preS ws k / a
def spA (n a : Int) (ws : List Int) : Nat → List Int
  | 0 => []
  | k + 1 => spA n a ws k ++ [spK n a ws k]
theorem spA_len {n a : Int} {ws : List Int} : ∀ k, (spA n a ws k).length = k
  | 0 => rfl
  | k + 1 => by rw [spA, List.length_append, spA_len k]; rfl
theorem nth_sn1 {α : Type} [Inhabited α] {xs : List α} {y : α} {i : Nat} (h : i < xs.length) : nth (xs ++ [y]) i = nth xs i := by
  rw [nth_eq (by rw [List.length_append]; omega), nth_eq h, List.getElem_append_left h]
theorem nth_sn2 {α : Type} [Inhabited α] {xs : List α} {y : α} : nth (xs ++ [y]) xs.length = y := by
  rw [nth_eq (by simp)]; simp
theorem spA_nth {n a : Int} {ws : List Int} {j : Nat} : ∀ {k : Nat}, j < k → nth (spA n a ws k) j = spK n a ws j
  | k + 1, h => by
    rw [spA]
    rcases Nat.lt_succ_iff_lt_or_eq.1 h with q | rfl
    · rw [nth_sn1 (by rw [spA_len]; exact q), spA_nth q]
    · have := nth_sn2 (xs := spA n a ws j) (y := spK n a ws j)
      rw [spA_len] at this
      exact this
theorem preS_up {ws : List Int} (h : ∀ x ∈ ws, 0 ≤ x) : ∀ {j k : Nat}, j ≤ k → k ≤ ws.length → 0 ≤ preS ws j ∧ preS ws j ≤ preS ws k
  | j, 0, hj, _ => by rw [show j = 0 by omega]; unfold preS; omega
  | j, k + 1, hj, hk => by
    have hm := h _ (nth_mem (xs := ws) (i := k) (by omega))
    rcases Nat.lt_or_eq_of_le hj with q | rfl
    · have := preS_up h (j := j) (k := k) (by omega) (by omega)
      rw [preS]; omega
    · have := preS_up h (j := k) (k := k) (by omega) (by omega)
      rw [preS]; omega
theorem preS_bd {ws : List Int} {B : Int} (h : ∀ j, j < ws.length → 0 ≤ nth ws j ∧ nth ws j ≤ B) : ∀ {k : Nat}, k ≤ ws.length → 0 ≤ preS ws k ∧ preS ws k ≤ B * (k : Int)
  | 0, _ => by unfold preS; omega
  | k + 1, hk => by
    have h1 := preS_bd h (k := k) (by omega)
    have h2 := h k (by omega)
    rw [preS, show B * ((k + 1 : Nat) : Int) = B * (k : Int) + B by rw [Int.natCast_add, Int.mul_add]; simp]
    omega

theorem sp_bd {n a b c : Int} (hn : 0 ≤ n) (ha : 0 < a) (hb : 0 ≤ b) (hbc : b ≤ c) (hc : c ≤ a) : (0 ≤ n * b / a ∧ n * b / a ≤ n * c / a) ∧ n * c / a ≤ n := by
  have h1 := Int.ediv_le_ediv ha (Int.mul_le_mul_of_nonneg_left hbc hn)
  have h2 := Int.ediv_le_ediv ha (Int.mul_le_mul_of_nonneg_left hc hn)
  rw [Int.mul_ediv_cancel _ (by omega)] at h2
  exact ⟨⟨Int.ediv_nonneg (Int.mul_nonneg hn hb) (by omega), h1⟩, h2⟩
theorem div64N_c (n b a : Int) (w0 : World) (hn : 0 ≤ n ∧ n ≤ 4294967295) (hb : 0 ≤ b) (hba : b ≤ a) (ha : 1 ≤ a ∧ a ≤ 17592186044416) : CallsV Tryz.prog 162 [.int .u64 (n * b / 18446744073709551616), .int .u64 (n * b % 18446744073709551616), .int .u64 a] w0 fun v w' => (∃ r9 : Int, v = .tuple #[.int .u64 (n * b / a), .int .u64 r9]) ∧ Ext w0 w' := by
  have h0 := Int.mul_nonneg hn.1 hb
  have h1 : n * b ≤ 4294967295 * a := Int.mul_le_mul hn.2 hba hb (by decide)
  have h := div64W_c (n * b / 18446744073709551616) (n * b % 18446744073709551616) a w0 (by omega) (by omega) (by omega)
  have e : n * b / 18446744073709551616 * 18446744073709551616 + n * b % 18446744073709551616 = n * b := by omega
  rw [e] at h; exact h
theorem own116 : Own Tryz.prog 116 := ⟨Tryz.f116, func116, by kernel_rfl, by kernel_rfl⟩
theorem own117 : Own Tryz.prog 117 := ⟨Tryz.f117, func117, by kernel_rfl, by kernel_rfl⟩
theorem awithin1_c (lo hi n : Int) (b c : Nat) (t1 t2 : TypeId) (w0 : World) (hb : Blk w0 b t1 [.int .i64 lo]) (hc : Blk w0 c t2 [.int .i64 hi]) :
    CallsV Tryz.prog 116 [.int .i64 n, .pointer (some ⟨b, 0, none⟩), .pointer (some ⟨c, 0, none⟩)] w0 (fun v w' => v = .bool (out1 lo hi n) ∧ Ext w0 w') := by
 refine f_n func116 ?_
 refine go ?_
 refine t_splitp 8 rfl (fun g8 => ?_) (fun g8 => ?_)
 ·
  refine go ?_
  refine f_1 results116 ?_
  exact ⟨by simp [out1, *], u_d⟩
 refine go ?_
 refine f_1 results116 ?_
 exact ⟨by simp [out1, *], u_d⟩
theorem awithin_c (lo hi : Int) (xs : List Int) (ao : Option Addr) (b o cap : Nat) (w0 : World) (hs : Sl encI 1 w0 ao b o xs) (hl : xs.length ≤ 1000000) :
    CallsV Tryz.prog 63 [.int .i64 lo, .int .i64 hi, .slice ao xs.length cap] w0 (fun v w' => v = .bool (decide (∀ n ∈ xs, lo ≤ n ∧ n ≤ hi)) ∧ Ext w0 w') := by
 refine f_n func63 ?_
 refine go ?_
 refine x_b fun bk2 w3 ebk2 sbk2 B4 u5 => ?_
 refine x_b fun bk7 w8 ebk7 sbk7 B9 u10 => ?_
 refine go ?_
 refine t_mkfunc (vs := []) (us := [.pointer (some ⟨bk2, 0, none⟩), .pointer (some ⟨bk7, 0, none⟩)]) rfl rfl rfl rfl ?_
 have B13 := (B4.kx u10)
 refine x_c func82 rfl rfl (containsI_c (out1 lo hi) 116 [.pointer (some ⟨bk2, 0, none⟩), .pointer (some ⟨bk7, 0, none⟩)] xs ao b o cap _ own116 (fun x _ w u => awithin1_c lo hi x bk2 bk7 _ _ w (B13.keep u (fun h => h)) (B9.keep u (fun h => h))) (hs.keep (((Upd.refl (fun _ => False) w0).nx u5).nx u10) (fun _ h => h)) hl) ?_
 rintro _ w15 ⟨rfl, u16⟩ zu16
 refine go ?_
 refine f_1 results63 ?_
 exact ⟨by rw [not_any_out], u_d⟩
theorem awithin1_v (lo hi m : Int) (b : Nat) (t : TypeId) (w : World) (h : Blk w b t [.int .i64 m]) : CallsV Tryz.prog 63 [.int .i64 lo, .int .i64 hi, .slice (some ⟨b, 0, none⟩) 1 1] w (fun v w' => v = .bool (decide (lo ≤ m ∧ m ≤ hi)) ∧ Ext w w') :=
  (awithin_c lo hi [m] _ b 0 1 w (SlI.own (xs := [m]) h) (by simp)).mono fun v w' ⟨e, u⟩ => ⟨by rw [e]; simp, u⟩
theorem asum_c (xs : List Int) (ao : Option Addr) (b o cap : Nat) (w0 : World) (hs : Sl encI 1 w0 ao b o xs) (hl : xs.length ≤ 100) (hbB : ∀ x ∈ xs, 0 ≤ x ∧ x ≤ 100000000000000) :
    CallsV Tryz.prog 64 [.slice ao xs.length cap] w0 (fun v w' => v = .int .i64 (preS xs xs.length) ∧ Ext w0 w') := by
 have hb : ∀ x ∈ xs, 0 ≤ x := fun x hx => (hbB x hx).1
 refine f_n func64 ?_
 refine go ?_
 refine x_l1 (fun _ => False) [5, 6] (fun (k : Nat) => [(2, .int .i64 (preS xs k)), (7, .int .i64 (k : Int))]) (fun k w => (k ≤ xs.length)) (fun k => xs.length - k) 0 (Nat.zero_le _) ?_
 rintro k w5 hk u6 zu6 K4 hK4
 refine go ?_
 refine q_p (fun g8 => ?_) fun g8 => ?_
 ·
  have hb9 := preS_up hb (j := k) (k := k) (Nat.le_refl _) (by omega)
  have hm9 := preS_bd (ws := xs) (B := 100000000000000) (fun j hj => hbB _ (nth_mem hj)) (k := k) (by omega)
  have hx9 := hbB _ (nth_mem (xs := xs) (i := k) (by omega))
  refine go ?_
  refine g_i k (hs.keep ((Upd.refl (fun _ => False) w0).nx u6) (fun _ h => h)) (fun _ => ?_)
  refine go ?_
  exact hK4 (k + 1) (by omega)
 refine go ?_
 refine f_1 results64 ?_
 exact ⟨congrArg (Value.int .i64) (by rw [show k = xs.length by omega]), u_d⟩
theorem next_cA (ps : Nat) (n a bf gn wt : Int) (w0 : World) (hp : Blk w0 ps 227 [.int .u64 n, .int .u64 a, .int .u64 bf, .int .u64 gn]) (hn : 0 ≤ n ∧ n ≤ 4294967295) (ha : 1 ≤ a) (hbf : 0 ≤ bf) (hwt : 0 ≤ wt) (hbw : bf + wt ≤ 17592186044416) (hba : bf + wt ≤ a) (ha9 : a ≤ 17592186044416) (hgn : 0 ≤ gn ∧ gn ≤ (n * (bf + wt) / a)) (hnx : (n * (bf + wt) / a) ≤ 9223372036854775807) :
    CallsV Tryz.prog 117 [.pointer (some ⟨ps, 0, none⟩), .int .i64 wt] w0 (fun v w' => v = .int .i64 (n * (bf + wt) / a - gn) ∧ Blk w' ps 227 [.int .u64 n, .int .u64 a, .int .u64 (bf + wt), .int .u64 (n * (bf + wt) / a)] ∧ Upd (fun i => i = ps) w0 w') := by
 refine f_n func117 ?_
 refine go ?_
 refine t_conv underlying3 underlying225 rfl rfl rfl (IntWalk.u64_in _ (by omega)) (t_ariW rfl rfl rfl rfl rfl (by omega) ?_)
 refine go ?_
 refine x_s fun w3 sw3 B5 u4 => ?_
 refine go ?_
 refine c_drawnM follows (fun _ => False) (OTl [0, 2, 4, 6, 8, 10, 12, 14, 17, 18, 20, 22, 24, 26]) (by kernel_rfl) fun w8 u9 => ?_
 have zu9 := u9.size
 refine go ?_
 refine x_c func161 rfl rfl (mul64W_c n (bf + wt) _ (by omega) (by omega)) ?_
 rintro _ w12 ⟨rfl, u13⟩ zu13
 refine go ?_
 refine x_c func162 rfl rfl (div64N_c n (bf + wt) a _ hn (by omega) (by omega) (by omega)) ?_
 rintro _ w18 ⟨⟨r9, rfl⟩, u19⟩ zu19
 refine go ?_
 refine t_ariW rfl rfl rfl rfl rfl (by omega) ?_
 refine go ?_
 refine x_s fun w24 sw24 B26 u25 => ?_
 refine go ?_
 refine t_conv underlying225 underlying3 rfl rfl rfl (IntWalk.i64_in _ (by omega)) ?_
 refine go ?_
 refine f_1 results117 ?_
 exact ⟨rfl, B26, u_d⟩
set_option maxHeartbeats 4000000 in
theorem split_c (n : Int) (ws : List Int) (aw : Option Addr) (bw ow cw : Nat) (w0 : World) (hs : Sl encI 1 w0 aw bw ow ws) (hl : ws.length ≤ 60) (hws : ∀ x ∈ ws, 0 ≤ x) (hn : 0 ≤ n ∧ n ≤ 4294967295) (hpos : 0 < (preS ws ws.length)) (hle : (preS ws ws.length) ≤ 17592186044416) :
    CallsV Tryz.prog 65 [.int .i64 n, .slice aw ws.length cw] w0 (fun v w' => (∃ ao g cp, v = .slice ao (List.length (spA n (preS ws ws.length) ws ws.length)) cp ∧ Sl encI 1 w' ao g 0 (spA n (preS ws ws.length) ws ws.length) ∧ (0 < ws.length → w0.heap.size ≤ g)) ∧ Ext w0 w') := by
 have hwB : ∀ x ∈ ws, 0 ≤ x ∧ x ≤ 100000000000000 := fun x hx => by
   obtain ⟨i, hi, rfl⟩ := List.getElem_of_mem hx
   have h1 := preS_up hws (j := i + 1) (k := ws.length) (by omega) (Nat.le_refl _)
   have h2 := preS_up hws (j := i) (k := i) (Nat.le_refl _) (by omega)
   rw [show preS ws (i + 1) = preS ws i + nth ws i from rfl, nth_eq hi] at h1
   have := hws _ hx
   omega
 refine f_n func65 ?_
 refine go ?_
 refine t_conv underlying3 underlying225 rfl rfl rfl (IntWalk.u64_in _ (by omega)) ?_
 refine go ?_
 refine x_c func64 rfl rfl (asum_c ws aw bw ow cw _ hs (by omega) hwB) ?_
 rintro _ w4 ⟨rfl, u5⟩ zu5
 refine t_conv underlying3 underlying225 rfl rfl rfl (IntWalk.u64_in _ (by omega)) ?_
 refine go ?_
 refine x_b fun bk8 w9 ebk8 sbk8 B10 u11 => ?_
 refine go ?_
 refine t_mkfunc (vs := [.pointer (some ⟨bk8, 0, none⟩)]) (us := []) rfl rfl rfl rfl ?_
 refine go ?_
 have B16 : Blk w9 bk8 227 [.int .u64 n, .int .u64 (preS ws ws.length), .int .u64 (preS ws 0), .int .u64 (n * (preS ws 0) / (preS ws ws.length))] := by
   have e : ([.int .u64 n, .int .u64 (preS ws ws.length), .int .u64 0, .int .u64 0] : List Value) = [.int .u64 n, .int .u64 (preS ws ws.length), .int .u64 (preS ws 0), .int .u64 (n * (preS ws 0) / (preS ws ws.length))] := (by rw [show preS ws 0 = 0 from rfl, Int.mul_zero, Int.zero_ediv])
   rw [← e]; exact B10
 refine x_l4 (fun i => i = bk8 ∨ w9.heap.size ≤ i) [6, 18, 19] (fun (k : Nat) (ao : Option Addr) (gq : Nat) (cq : Nat) => [(4, .slice ao ((spA n (preS ws ws.length) ws k).length) cq), (20, .int .i64 (k : Int))]) (fun k ao gq cq w => Blk w bk8 227 [.int .u64 n, .int .u64 (preS ws ws.length), .int .u64 (preS ws k), .int .u64 (n * (preS ws k) / (preS ws ws.length))] ∧ (k ≤ ws.length) ∧ (Acc encI 1 3 w9.heap.size w ao gq cq (spA n (preS ws ws.length) ws k))) (fun k ao gq cq => ws.length - k) 0 none 0 0 ⟨B16, (Nat.zero_le _), (Acc.nil _ _ _ _ _ (by omega) (Nat.le_refl _))⟩ ?_
 rintro k ao gq cq w18 ⟨I20, hk, hac⟩ u19 zu19 K17 hK17
 have lt_gq := hac.lt
 have hol : (spA n (preS ws ws.length) ws k).length = k := spA_len k
 refine go ?_
 refine q_p (fun g21 => ?_) fun g21 => ?_
 ·
  have hw9 := hws _ (nth_mem (xs := ws) (i := k) (by omega))
  have hp9 := preS_up hws (j := k) (k := k + 1) (by omega) (by omega)
  have hp8 := preS_up hws (j := k + 1) (k := ws.length) (by omega) (Nat.le_refl _)
  rw [show preS ws (k + 1) = preS ws k + nth ws k from rfl] at hp9 hp8
  have hsb := sp_bd (n := n) hn.1 hpos hp9.1 hp9.2 hp8.2
  refine go ?_
  refine g_i k (hs.keep ((((Upd.refl (fun _ => False) w0).nx u5).nx u11).next u19 (fun i hi (h : i = bk8 ∨ w9.heap.size ≤ i) => show False by first | omega | assumption)) (fun _ h => h)) (fun _ => ?_)
  refine go ?_
  refine t_call own117 rfl rfl rfl rfl (next_cA bk8 n (preS ws ws.length) (preS ws k) (n * (preS ws k) / (preS ws ws.length)) (nth ws k) _ I20 (by omega) (by omega) (by omega) (by omega) (by omega) (by omega) (by omega) (by omega) (by omega)) (fun v28 w29 r31 => ?_)
  obtain ⟨rfl, hBx27, u30⟩ := r31
  have zu30 := u30.size
  refine x_l fun bk33 w34 ebk33 sbk33 B35 u36 => ?_
  have D38 := ((hac.keep u30 (fun hb => show ¬ (gq = bk8) by first | omega | assumption)).keep u36 (fun _ h => h))
  refine t_append (z := .int .i64 0) (bytes := 8) (k := 1) (base := w9.heap.size) (spK n (preS ws ws.length) ws k) underlying28 (by kernel_rfl) rfl (by decide) (fun _ => rfl) (by intro x; simp [encI, Value.oneCell']) rfl rfl rfl rfl D38 B35 (by omega) (by omega) (by decide) (fun ao39 gb40 cp41 w42 A43 u44 gegb40 lngb40 => ?_)
  have zu44 := u44.size
  have lt_gb40 := A43.lt
  refine go ?_
  have B46 := ((hBx27.kx u36).keep u44 (by omega))
  exact hK17 (k + 1) ao39 gb40 cp41 ⟨B46, (by omega), A43⟩ (hu := (((u19.next u30 (fun i hi (h : i = bk8) => show i = bk8 ∨ w9.heap.size ≤ i by first | omega | assumption)).nx u36).next u44 (fun i hi (h : (i = gq ∧ w9.heap.size ≤ i)) => show i = bk8 ∨ w9.heap.size ≤ i by first | omega | assumption)))
 refine go ?_
 refine f_1 results65 ?_
 obtain rfl : k = ws.length := by omega
 have hA9 := hac
 exact ⟨⟨_, _, _, rfl, hA9.sl (fun _ => rfl), fun h9 => by have := hA9.ge (by omega); omega⟩, u_d⟩
theorem Split_c (n : Int) (ws : List Int) (aw : Option Addr) (bw ow cw : Nat) (w0 : World) (hs : Sl encI 1 w0 aw bw ow ws) (hl : ws.length ≤ 60) (hws : ∀ x ∈ ws, 0 ≤ x) (hn : 0 ≤ n ∧ n ≤ 4294967295) (hpos : 0 < (preS ws ws.length)) (hle : (preS ws ws.length) ≤ 17592186044416) :
    CallsV Tryz.prog 26 [.int .i64 n, .slice aw ws.length cw] w0 (fun v w' => (∃ ao g cp, v = .tuple #[.slice ao (List.length (spA n (preS ws ws.length) ws ws.length)) cp, .int .i64 0] ∧ Sl encI 1 w' ao g 0 (spA n (preS ws ws.length) ws ws.length) ∧ (0 < ws.length → w0.heap.size ≤ g)) ∧ Ext w0 w') := by
 have hwB : ∀ x ∈ ws, 0 ≤ x ∧ x ≤ 100000000000000 := fun x hx => by
   obtain ⟨i, hi, rfl⟩ := List.getElem_of_mem hx
   have h1 := preS_up hws (j := i + 1) (k := ws.length) (by omega) (Nat.le_refl _)
   have h2 := preS_up hws (j := i) (k := i) (Nat.le_refl _) (by omega)
   rw [show preS ws (i + 1) = preS ws i + nth ws i from rfl, nth_eq hi] at h1
   have := hws _ hx
   omega
 refine f_n func26 ?_
 iterate 13 refine st1 ?_
 refine t_same 9 (v := .bool false) rfl (congrArg Value.bool (decide_eq_false (by omega))) ?_
 refine go ?_
 refine x_l fun bk5 w6 ebk5 sbk5 B7 u8 => ?_
 refine x_c func63 rfl rfl (awithin1_v 0 100000000000000 n _ _ _ B7) ?_
 rintro _ w11 ⟨rfl, u12⟩ zu12
 have E14 := Sc.mk (((Upd.refl (fun _ => False) w0).nx u8).nx u12)
 refine st1 ?_
 refine t_same 14 (v := .bool false) rfl (congrArg Value.bool (decide_eq_false (fun h => h (by omega)))) ?_
 refine go ?_
 refine x_c func63 rfl rfl (awithin_c 0 100000000000000 ws aw bw ow cw _ (hs.keep E14.u (fun _ h => h)) (by omega)) ?_
 rintro _ w17 ⟨rfl, u18⟩ zu18
 have E20 := Sc.mk (E14.u.nx u18)
 refine st1 ?_
 refine t_same 18 (v := .bool false) rfl (congrArg Value.bool (decide_eq_false (fun h => h hwB))) ?_
 refine go ?_
 refine x_c func64 rfl rfl (asum_c ws aw bw ow cw _ (hs.keep E20.u (fun _ h => h)) (by omega) hwB) ?_
 rintro _ w22 ⟨rfl, u23⟩ zu23
 refine st1 ?_
 refine t_same 22 (v := .bool false) rfl (congrArg Value.bool (decide_eq_false (by omega))) ?_
 refine go ?_
 refine x_c func65 rfl rfl (split_c n ws aw bw ow cw _ (hs.keep (E20.u.nx u23) (fun _ h => h)) hl hws hn hpos hle) ?_
 rintro _ w29 ⟨⟨aS, gS, cS, rfl, hS, hG⟩, u30⟩ zu30
 refine go ?_
 refine f_ret2 (v1 := .slice aS (List.length (spA n (preS ws ws.length) ws ws.length)) cS) (v2 := .int .i64 0) results26 rfl rfl ?_
 exact ⟨⟨_, _, _, rfl, hS, fun h9 => by have := hG h9; omega⟩, u_d⟩
theorem Split0_c (n : Int) (ws : List Int) (aw : Option Addr) (bw ow cw : Nat) (w0 : World) (hs : Sl encI 1 w0 aw bw ow ws) (hl : ws.length ≤ 60) (hws : ∀ x ∈ ws, 0 ≤ x) (hn : 0 ≤ n ∧ n ≤ 4294967295) (hz : (preS ws ws.length) = 0) :
    CallsV Tryz.prog 26 [.int .i64 n, .slice aw ws.length cw] w0 (fun v w' => v = .tuple #[.slice none 0 0, .int .i64 2] ∧ Ext w0 w') := by
 have hwB : ∀ x ∈ ws, 0 ≤ x ∧ x ≤ 100000000000000 := fun x hx => by
   obtain ⟨i, hi, rfl⟩ := List.getElem_of_mem hx
   have h1 := preS_up hws (j := i + 1) (k := ws.length) (by omega) (Nat.le_refl _)
   have h2 := preS_up hws (j := i) (k := i) (Nat.le_refl _) (by omega)
   rw [show preS ws (i + 1) = preS ws i + nth ws i from rfl, nth_eq hi] at h1
   have := hws _ hx
   omega
 refine f_n func26 ?_
 iterate 13 refine st1 ?_
 refine t_same 9 (v := .bool false) rfl (congrArg Value.bool (decide_eq_false (by omega))) ?_
 refine go ?_
 refine x_l fun bk5 w6 ebk5 sbk5 B7 u8 => ?_
 refine x_c func63 rfl rfl (awithin1_v 0 100000000000000 n _ _ _ B7) ?_
 rintro _ w11 ⟨rfl, u12⟩ zu12
 have E14 := Sc.mk (((Upd.refl (fun _ => False) w0).nx u8).nx u12)
 refine st1 ?_
 refine t_same 14 (v := .bool false) rfl (congrArg Value.bool (decide_eq_false (fun h => h (by omega)))) ?_
 refine go ?_
 refine x_c func63 rfl rfl (awithin_c 0 100000000000000 ws aw bw ow cw _ (hs.keep E14.u (fun _ h => h)) (by omega)) ?_
 rintro _ w17 ⟨rfl, u18⟩ zu18
 refine st1 ?_
 refine t_same 18 (v := .bool false) rfl (congrArg Value.bool (decide_eq_false (fun h => h hwB))) ?_
 refine go ?_
 refine x_c func64 rfl rfl (asum_c ws aw bw ow cw _ (hs.keep (E14.u.nx u18) (fun _ h => h)) (by omega) hwB) ?_
 rintro _ w22 ⟨rfl, u23⟩ zu23
 refine st1 ?_
 refine t_same 22 (v := .bool true) rfl (congrArg Value.bool (decide_eq_true (by omega))) ?_
 refine go ?_
 refine f_ret2 (v1 := .slice none 0 0) (v2 := .int .i64 2) results26 rfl rfl ?_
 exact ⟨rfl, u_d⟩

end Go.Proofs.YtagmkfbbhfaceaaGreatDoor
namespace Go.Proofs.YtagmkfbbhfaceaaGreatDoor
open Go Go.RowKit Go.Proofs.Tryz
set_option maxRecDepth 10000

structure Bid where
  p : Int
  n : Int
  r : Int
  m : Int
instance : Inhabited Bid := ⟨⟨default, default, default, default⟩⟩
structure Trd where
  b : Int
  s : Int
  n : Int
instance : Inhabited Trd := ⟨⟨default, default, default⟩⟩
structure Low where
  b : Int
  p : Int
instance : Inhabited Low := ⟨⟨default, default⟩⟩
def encLow (x : Low) : List Value := [.int .i64 x.b, .int .i64 x.p]
structure Msg where
  c : Int
  n : Int
  r : Int
  k : Int
  m : Int
  v : Int
instance : Inhabited Msg := ⟨⟨default, default, default, default, default, default⟩⟩
def encMsg (x : Msg) : List Value := [.int .i64 x.c, .int .i64 x.n, .int .i64 x.r, .int .i64 x.k, .int .i64 x.m, .int .i64 x.v]
structure Fre where
  f : Int
  t : Int
instance : Inhabited Fre := ⟨⟨default, default⟩⟩
def encFre (x : Fre) : List Value := [.int .i64 x.f, .int .i64 x.t]
structure Off where
  f : Int
  t : Int
  b : Int
  e : Int
  p : Int
instance : Inhabited Off := ⟨⟨default, default, default, default, default⟩⟩
structure Chr where
  s : Int
  c : Int
  k : Int
  r : Int
  n : Int
  l : Int
  o : Int
  d : Int
  e : Int
  m : Int
instance : Inhabited Chr := ⟨⟨default, default, default, default, default, default, default, default, default, default⟩⟩

def cmpI3 (m n : Int) : Int := if m < n then -1 else if n < m then 1 else 0
def or3 (a b c : Int) : Int := if a ≠ 0 then a else if b ≠ 0 then b else c
def okMsg (x : Msg) : Bool := decide ((0 ≤ x.c ∧ x.c ≤ 9) ∧ (0 ≤ x.n ∧ x.n ≤ 999) ∧ (0 ≤ x.r ∧ x.r ≤ 99) ∧ (1 ≤ x.k ∧ x.k ≤ 7) ∧ (0 ≤ x.m ∧ x.m ≤ 100000) ∧ (0 ≤ x.v ∧ x.v ≤ 1000000))
def okFre (x : Fre) : Bool := decide (((0 ≤ x.f ∧ x.f ≤ 100000) ∧ (0 ≤ x.t ∧ x.t ≤ 100000)) ∧ x.f ≤ x.t)
def okLow (x : Low) : Bool := decide ((0 ≤ x.b ∧ x.b ≤ 10000) ∧ (0 ≤ x.p ∧ x.p ≤ 1000))
/-- a / b, rounded. -/
def rnd2 (a b : Int) : Int := (a + b / 2) / b
def chkFr (l : List Fre) : Int := if 30 < l.length then 5 else if (l.any fun f => !okFre f) = true then 2 else 0

theorem own199 : Own Tryz.prog 199 := ⟨Tryz.f199, func199, by kernel_rfl, by kernel_rfl⟩
theorem own202 : Own Tryz.prog 202 := ⟨Tryz.f202, func202, by kernel_rfl, by kernel_rfl⟩
theorem own203 : Own Tryz.prog 203 := ⟨Tryz.f203, func203, by kernel_rfl, by kernel_rfl⟩
theorem own208 : Own Tryz.prog 208 := ⟨Tryz.f208, func208, by kernel_rfl, by kernel_rfl⟩
theorem own209 : Own Tryz.prog 209 := ⟨Tryz.f209, func209, by kernel_rfl, by kernel_rfl⟩
theorem own227 : Own Tryz.prog 227 := ⟨Tryz.f227, func227, by kernel_rfl, by kernel_rfl⟩
theorem own230 : Own Tryz.prog 230 := ⟨Tryz.f230, func230, by kernel_rfl, by kernel_rfl⟩
theorem isNaN_c (m : Int) (w0 : World) :
    CallsV Tryz.prog 230 [.int .i64 m] w0 (fun v w' => (v = .bool false ∧ Gr w0 w') ∧ Ext w0 w') := by
 refine f_n func230 ?_
 iterate 10 refine st1 ?_
 refine t_samehd (v := .bool false) (by simp) ?_
 refine go ?_
 refine f_1 results230 ?_
 exact ⟨⟨rfl, Gr.refl _⟩, u_d⟩
theorem cmpI_c (m n : Int) (w0 : World) :
    CallsV Tryz.prog 209 [.int .i64 m, .int .i64 n] w0 (fun v w' => (v = .int .i64 (cmpI3 m n) ∧ Gr w0 w') ∧ Ext w0 w') := by
 refine f_n func209 ?_
 refine go ?_
 refine t_call own230 rfl rfl rfl rfl (isNaN_c m _) (fun v3 w4 r6 => ?_)
 obtain ⟨⟨rfl, Gu5⟩, u5⟩ := r6
 have zu5 := u5.size
 refine go ?_
 refine t_call own230 rfl rfl rfl rfl (isNaN_c n _) (fun v9 w10 r12 => ?_)
 obtain ⟨⟨rfl, Gu11⟩, u11⟩ := r12
 have zu11 := u11.size
 refine go ?_
 refine q_p (fun g16 => ?_) fun g16 => ?_
 ·
  refine go ?_
  refine f_1 results209 ?_
  exact ⟨⟨congrArg (Value.int .i64) (by unfold cmpI3; rw [if_pos g16]), (((Gr.refl _).trans Gu5).trans Gu11)⟩, u_d⟩
 refine go ?_
 refine q_p (fun g19 => ?_) fun g19 => ?_
 ·
  refine go ?_
  refine f_1 results209 ?_
  exact ⟨⟨congrArg (Value.int .i64) (by unfold cmpI3; rw [if_neg g16, if_pos g19]), (((Gr.refl _).trans Gu5).trans Gu11)⟩, u_d⟩
 refine go ?_
 refine f_1 results209 ?_
 exact ⟨⟨congrArg (Value.int .i64) (by unfold cmpI3; rw [if_neg g16, if_neg g19]), (((Gr.refl _).trans Gu5).trans Gu11)⟩, u_d⟩
theorem or3_c (m n q : Int) (b : Nat) (w0 : World) (hb : Blk w0 b 3 [.int .i64 m, .int .i64 n, .int .i64 q]) :
    CallsV Tryz.prog 208 [.slice (some ⟨b, 0, none⟩) 3 3] w0 (fun v w' => (v = .int .i64 (or3 m n q) ∧ Gr w0 w') ∧ Ext w0 w') := by
 refine f_n func208 ?_
 refine go ?_
 refine c_rounds 4 (WR.weak [(3, .int .i64 0), (6, .slice (some ⟨b, 0, none⟩) 3 3), (7, .int .i64 3), (8, .int .i64 0)] ⟨rfl, rfl, rfl, rfl, trivial⟩ (r_round fun K5 hK5 => (q_of ?_)))
 refine go ?_
 refine t_index (j := 0) underlying28 sizeOf3 rfl rfl rfl rfl rfl rfl (by omega) ?_
 refine go ?_
 refine q_p (fun g14 => ?_) fun g14 => ?_
 ·
  refine go ?_
  refine f_1 results208 ?_
  exact ⟨⟨congrArg (Value.int .i64) (by unfold or3; (repeat' split) <;> omega), (Gr.refl _)⟩, u_d⟩
 refine go ?_
 refine hK5 _ _ (WR.weak [(3, .int .i64 0), (6, .slice (some ⟨b, 0, none⟩) 3 3), (7, .int .i64 3), (8, .int .i64 1)] ⟨rfl, rfl, rfl, rfl, trivial⟩ (r_round fun K12 hK12 => (q_of ?_)))
 refine go ?_
 refine t_index (j := 1) underlying28 sizeOf3 rfl rfl rfl rfl rfl rfl (by omega) ?_
 refine go ?_
 refine q_p (fun g14 => ?_) fun g14 => ?_
 ·
  refine go ?_
  refine f_1 results208 ?_
  exact ⟨⟨congrArg (Value.int .i64) (by unfold or3; (repeat' split) <;> omega), (Gr.refl _)⟩, u_d⟩
 refine go ?_
 refine hK12 _ _ (WR.weak [(3, .int .i64 0), (6, .slice (some ⟨b, 0, none⟩) 3 3), (7, .int .i64 3), (8, .int .i64 2)] ⟨rfl, rfl, rfl, rfl, trivial⟩ (r_round fun K19 hK19 => (q_of ?_)))
 refine go ?_
 refine t_index (j := 2) underlying28 sizeOf3 rfl rfl rfl rfl rfl rfl (by omega) ?_
 refine go ?_
 refine q_p (fun g14 => ?_) fun g14 => ?_
 ·
  refine go ?_
  refine f_1 results208 ?_
  exact ⟨⟨congrArg (Value.int .i64) (by unfold or3; (repeat' split) <;> omega), (Gr.refl _)⟩, u_d⟩
 refine go ?_
 refine hK19 _ _ (WR.weak [(3, .int .i64 0), (6, .slice (some ⟨b, 0, none⟩) 3 3), (7, .int .i64 3), (8, .int .i64 3)] ⟨rfl, rfl, rfl, rfl, trivial⟩ (r_round fun K26 hK26 => (q_of ?_)))
 refine go ?_
 refine f_1 results208 ?_
 exact ⟨⟨congrArg (Value.int .i64) (by unfold or3; (repeat' split) <;> omega), (Gr.refl _)⟩, u_d⟩
theorem within1_cF (lo hi n : Int) (b c : Nat) (t1 t2 : TypeId) (w0 : World) (hb : Blk w0 b t1 [.int .i64 lo]) (hc : Blk w0 c t2 [.int .i64 hi]) :
    CallsV Tryz.prog 227 [.int .i64 n, .pointer (some ⟨b, 0, none⟩), .pointer (some ⟨c, 0, none⟩)] w0 (fun v w' => v = .bool (out1 lo hi n) ∧ Ext w0 w') := by
 refine f_n func227 ?_
 refine go ?_
 refine t_splitp 8 rfl (fun g8 => ?_) (fun g8 => ?_)
 ·
  refine go ?_
  refine f_1 results227 ?_
  exact ⟨by simp [out1, *], u_d⟩
 refine go ?_
 refine f_1 results227 ?_
 exact ⟨by simp [out1, *], u_d⟩
theorem indexM_c {α : Type} [Inhabited α] (enc : α → List Value) (hk : ∀ x, (enc x).length = 6) (p : α → Bool) (fv : FuncId) (caps : List Value) (xs : List α) (ao : Option Addr) (b o cap : Nat) (w0 : World) (ho : Own Tryz.prog fv) (hp : ∀ x ∈ xs, ∀ w, Ext w0 w → CallsV Tryz.prog fv ([.agg (enc x).toArray] ++ caps) w fun v w' => v = .bool (p x) ∧ Ext w w') (hs : Sl enc 6 w0 ao b o xs) (hl : xs.length ≤ 1000000) :
    CallsV Tryz.prog 210 [.slice ao xs.length cap, .func (.func fv) #[] (caps).toArray] w0 (fun v w' => (∃ n : Int, v = .int .i64 n ∧ decide (0 ≤ n) = xs.any p) ∧ Ext w0 w') := by
 refine f_n func210 ?_
 refine go ?_
 refine x_l1 (fun _ => False) [0, 1, 7] (fun (k : Nat) => [(8, .int .i64 (k : Int))]) (fun k w => (k ≤ xs.length) ∧ ((xs.take k).any p = false)) (fun k => xs.length - k) 0 ⟨Nat.zero_le _, (by simp)⟩ ?_
 rintro k w5 ⟨hle, hnot⟩ u6 zu6 K4 hK4
 have E7 := Sc.mk ((Upd.refl (fun _ => False) w0).nx u6)
 refine go ?_
 refine q_p (fun g9 => ?_) fun g9 => ?_
 ·
  refine go ?_
  refine g_i k (hs.keep E7.u (fun _ h => h)) (fun _ => ?_)
  refine t_loadN (vs := enc (nth xs k)) isAgg235 sizeOf235 rfl rfl rfl ((hs.keep E7.u (fun _ h => h)).at_ k (by omega)) (hk _) (t_call (fs := []) (cs := caps) ho rfl rfl rfl rfl (hp (nth xs k) (nth_mem (by omega)) _ E7.u) (fun v14 w15 r17 => ?_))
  obtain ⟨rfl, u16⟩ := r17
  have zu16 := u16.size
  refine go ?_
  refine q_b (fun g16 => ?_) fun g16 => ?_
  ·
   refine go ?_
   refine f_1 results210 ?_
   exact ⟨⟨_, rfl, any_hit (by omega) g16⟩, u_d⟩
  refine go ?_
  exact hK4 (k + 1) ⟨(by omega), (any_snoc (by omega) hnot g16)⟩
 refine go ?_
 refine f_1 results210 ?_
 exact ⟨⟨_, rfl, any_none (by omega) hnot⟩, u_d⟩
theorem containsM_c {α : Type} [Inhabited α] (enc : α → List Value) (hk : ∀ x, (enc x).length = 6) (p : α → Bool) (fv : FuncId) (caps : List Value) (xs : List α) (ao : Option Addr) (b o cap : Nat) (w0 : World) (ho : Own Tryz.prog fv) (hp : ∀ x ∈ xs, ∀ w, Ext w0 w → CallsV Tryz.prog fv ([.agg (enc x).toArray] ++ caps) w fun v w' => v = .bool (p x) ∧ Ext w w') (hs : Sl enc 6 w0 ao b o xs) (hl : xs.length ≤ 1000000) :
    CallsV Tryz.prog 166 [.slice ao xs.length cap, .func (.func fv) #[] (caps).toArray] w0 (fun v w' => v = .bool (xs.any p) ∧ Ext w0 w') := by
 refine f_n func166 ?_
 refine go ?_
 refine x_c func210 rfl rfl (indexM_c enc hk p fv caps xs ao b o cap _ ho hp hs hl) ?_
 rintro _ w4 ⟨⟨n, rfl, hn⟩, u5⟩ zu5
 refine go ?_
 refine f_1 results166 ?_
 exact ⟨by rw [hn], u_d⟩
theorem indexL_c {α : Type} [Inhabited α] (enc : α → List Value) (hk : ∀ x, (enc x).length = 2) (p : α → Bool) (fv : FuncId) (caps : List Value) (xs : List α) (ao : Option Addr) (b o cap : Nat) (w0 : World) (ho : Own Tryz.prog fv) (hp : ∀ x ∈ xs, ∀ w, Ext w0 w → CallsV Tryz.prog fv ([.agg (enc x).toArray] ++ caps) w fun v w' => v = .bool (p x) ∧ Ext w w') (hs : Sl enc 2 w0 ao b o xs) (hl : xs.length ≤ 1000000) :
    CallsV Tryz.prog 226 [.slice ao xs.length cap, .func (.func fv) #[] (caps).toArray] w0 (fun v w' => (∃ n : Int, v = .int .i64 n ∧ decide (0 ≤ n) = xs.any p) ∧ Ext w0 w') := by
 refine f_n func226 ?_
 refine go ?_
 refine x_l1 (fun _ => False) [0, 1, 7] (fun (k : Nat) => [(8, .int .i64 (k : Int))]) (fun k w => (k ≤ xs.length) ∧ ((xs.take k).any p = false)) (fun k => xs.length - k) 0 ⟨Nat.zero_le _, (by simp)⟩ ?_
 rintro k w5 ⟨hle, hnot⟩ u6 zu6 K4 hK4
 have E7 := Sc.mk ((Upd.refl (fun _ => False) w0).nx u6)
 refine go ?_
 refine q_p (fun g9 => ?_) fun g9 => ?_
 ·
  refine go ?_
  refine g_i k (hs.keep E7.u (fun _ h => h)) (fun _ => ?_)
  refine t_loadN (vs := enc (nth xs k)) isAgg310 sizeOf310 rfl rfl rfl ((hs.keep E7.u (fun _ h => h)).at_ k (by omega)) (hk _) (t_call (fs := []) (cs := caps) ho rfl rfl rfl rfl (hp (nth xs k) (nth_mem (by omega)) _ E7.u) (fun v14 w15 r17 => ?_))
  obtain ⟨rfl, u16⟩ := r17
  have zu16 := u16.size
  refine go ?_
  refine q_b (fun g16 => ?_) fun g16 => ?_
  ·
   refine go ?_
   refine f_1 results226 ?_
   exact ⟨⟨_, rfl, any_hit (by omega) g16⟩, u_d⟩
  refine go ?_
  exact hK4 (k + 1) ⟨(by omega), (any_snoc (by omega) hnot g16)⟩
 refine go ?_
 refine f_1 results226 ?_
 exact ⟨⟨_, rfl, any_none (by omega) hnot⟩, u_d⟩
theorem containsL_c {α : Type} [Inhabited α] (enc : α → List Value) (hk : ∀ x, (enc x).length = 2) (p : α → Bool) (fv : FuncId) (caps : List Value) (xs : List α) (ao : Option Addr) (b o cap : Nat) (w0 : World) (ho : Own Tryz.prog fv) (hp : ∀ x ∈ xs, ∀ w, Ext w0 w → CallsV Tryz.prog fv ([.agg (enc x).toArray] ++ caps) w fun v w' => v = .bool (p x) ∧ Ext w w') (hs : Sl enc 2 w0 ao b o xs) (hl : xs.length ≤ 1000000) :
    CallsV Tryz.prog 198 [.slice ao xs.length cap, .func (.func fv) #[] (caps).toArray] w0 (fun v w' => v = .bool (xs.any p) ∧ Ext w0 w') := by
 refine f_n func198 ?_
 refine go ?_
 refine x_c func226 rfl rfl (indexL_c enc hk p fv caps xs ao b o cap _ ho hp hs hl) ?_
 rintro _ w4 ⟨⟨n, rfl, hn⟩, u5⟩ zu5
 refine go ?_
 refine f_1 results198 ?_
 exact ⟨by rw [hn], u_d⟩
theorem indexF_c {α : Type} [Inhabited α] (enc : α → List Value) (hk : ∀ x, (enc x).length = 2) (p : α → Bool) (fv : FuncId) (caps : List Value) (xs : List α) (ao : Option Addr) (b o cap : Nat) (w0 : World) (ho : Own Tryz.prog fv) (hp : ∀ x ∈ xs, ∀ w, Ext w0 w → CallsV Tryz.prog fv ([.agg (enc x).toArray] ++ caps) w fun v w' => v = .bool (p x) ∧ Ext w w') (hs : Sl enc 2 w0 ao b o xs) (hl : xs.length ≤ 1000000) :
    CallsV Tryz.prog 228 [.slice ao xs.length cap, .func (.func fv) #[] (caps).toArray] w0 (fun v w' => (∃ n : Int, v = .int .i64 n ∧ decide (0 ≤ n) = xs.any p) ∧ Ext w0 w') := by
 refine f_n func228 ?_
 refine go ?_
 refine x_l1 (fun _ => False) [0, 1, 7] (fun (k : Nat) => [(8, .int .i64 (k : Int))]) (fun k w => (k ≤ xs.length) ∧ ((xs.take k).any p = false)) (fun k => xs.length - k) 0 ⟨Nat.zero_le _, (by simp)⟩ ?_
 rintro k w5 ⟨hle, hnot⟩ u6 zu6 K4 hK4
 have E7 := Sc.mk ((Upd.refl (fun _ => False) w0).nx u6)
 refine go ?_
 refine q_p (fun g9 => ?_) fun g9 => ?_
 ·
  refine go ?_
  refine g_i k (hs.keep E7.u (fun _ h => h)) (fun _ => ?_)
  refine t_loadN (vs := enc (nth xs k)) isAgg283 sizeOf283 rfl rfl rfl ((hs.keep E7.u (fun _ h => h)).at_ k (by omega)) (hk _) (t_call (fs := []) (cs := caps) ho rfl rfl rfl rfl (hp (nth xs k) (nth_mem (by omega)) _ E7.u) (fun v14 w15 r17 => ?_))
  obtain ⟨rfl, u16⟩ := r17
  have zu16 := u16.size
  refine go ?_
  refine q_b (fun g16 => ?_) fun g16 => ?_
  ·
   refine go ?_
   refine f_1 results228 ?_
   exact ⟨⟨_, rfl, any_hit (by omega) g16⟩, u_d⟩
  refine go ?_
  exact hK4 (k + 1) ⟨(by omega), (any_snoc (by omega) hnot g16)⟩
 refine go ?_
 refine f_1 results228 ?_
 exact ⟨⟨_, rfl, any_none (by omega) hnot⟩, u_d⟩
theorem containsF_c {α : Type} [Inhabited α] (enc : α → List Value) (hk : ∀ x, (enc x).length = 2) (p : α → Bool) (fv : FuncId) (caps : List Value) (xs : List α) (ao : Option Addr) (b o cap : Nat) (w0 : World) (ho : Own Tryz.prog fv) (hp : ∀ x ∈ xs, ∀ w, Ext w0 w → CallsV Tryz.prog fv ([.agg (enc x).toArray] ++ caps) w fun v w' => v = .bool (p x) ∧ Ext w w') (hs : Sl enc 2 w0 ao b o xs) (hl : xs.length ≤ 1000000) :
    CallsV Tryz.prog 201 [.slice ao xs.length cap, .func (.func fv) #[] (caps).toArray] w0 (fun v w' => v = .bool (xs.any p) ∧ Ext w0 w') := by
 refine f_n func201 ?_
 refine go ?_
 refine x_c func228 rfl rfl (indexF_c enc hk p fv caps xs ao b o cap _ ho hp hs hl) ?_
 rintro _ w4 ⟨⟨n, rfl, hn⟩, u5⟩ zu5
 refine go ?_
 refine f_1 results201 ?_
 exact ⟨by rw [hn], u_d⟩
theorem within_cF (lo hi : Int) (xs : List Int) (ao : Option Addr) (b o cap : Nat) (w0 : World) (hs : Sl encI 1 w0 ao b o xs) (hl : xs.length ≤ 1000000) :
    CallsV Tryz.prog 200 [.int .i64 lo, .int .i64 hi, .slice ao xs.length cap] w0 (fun v w' => v = .bool (decide (∀ n ∈ xs, lo ≤ n ∧ n ≤ hi)) ∧ Ext w0 w') := by
 refine f_n func200 ?_
 refine go ?_
 refine x_b fun bk2 w3 ebk2 sbk2 B4 u5 => ?_
 refine x_b fun bk7 w8 ebk7 sbk7 B9 u10 => ?_
 refine go ?_
 refine t_mkfunc (vs := []) (us := [.pointer (some ⟨bk2, 0, none⟩), .pointer (some ⟨bk7, 0, none⟩)]) rfl rfl rfl rfl ?_
 have B13 := (B4.kx u10)
 refine x_c func82 rfl rfl (containsI_c (out1 lo hi) 227 [.pointer (some ⟨bk2, 0, none⟩), .pointer (some ⟨bk7, 0, none⟩)] xs ao b o cap _ own227 (fun x _ w u => within1_cF lo hi x bk2 bk7 _ _ w (B13.keep u (fun h => h)) (B9.keep u (fun h => h))) (hs.keep (((Upd.refl (fun _ => False) w0).nx u5).nx u10) (fun _ h => h)) hl) ?_
 rintro _ w15 ⟨rfl, u16⟩ zu16
 refine go ?_
 refine f_1 results200 ?_
 exact ⟨by rw [not_any_out], u_d⟩
theorem within1_vF (lo hi m : Int) (b : Nat) (t : TypeId) (w : World) (h : Blk w b t [.int .i64 m]) :
    CallsV Tryz.prog 200 [.int .i64 lo, .int .i64 hi, .slice (some ⟨b, 0, none⟩) 1 1] w (fun v w' => v = .bool (decide ((lo ≤ m ∧ m ≤ hi))) ∧ Ext w w') :=
  (within_cF lo hi [m] _ b 0 1 w (SlI.own (xs := [m]) h) (by simp)).mono fun v w' ⟨e, u⟩ => ⟨by rw [e]; simp, u⟩
theorem within2_vF (lo hi m n : Int) (b : Nat) (t : TypeId) (w : World) (h : Blk w b t [.int .i64 m, .int .i64 n]) :
    CallsV Tryz.prog 200 [.int .i64 lo, .int .i64 hi, .slice (some ⟨b, 0, none⟩) 2 2] w (fun v w' => v = .bool (decide ((lo ≤ m ∧ m ≤ hi) ∧ (lo ≤ n ∧ n ≤ hi))) ∧ Ext w w') :=
  (within_cF lo hi [m, n] _ b 0 2 w (SlI.own (xs := [m, n]) h) (by simp)).mono fun v w' ⟨e, u⟩ => ⟨by rw [e]; simp, u⟩
theorem within3_v (lo hi m n q : Int) (b : Nat) (t : TypeId) (w : World) (h : Blk w b t [.int .i64 m, .int .i64 n, .int .i64 q]) :
    CallsV Tryz.prog 200 [.int .i64 lo, .int .i64 hi, .slice (some ⟨b, 0, none⟩) 3 3] w (fun v w' => v = .bool (decide ((lo ≤ m ∧ m ≤ hi) ∧ (lo ≤ n ∧ n ≤ hi) ∧ (lo ≤ q ∧ q ≤ hi))) ∧ Ext w w') :=
  (within_cF lo hi [m, n, q] _ b 0 3 w (SlI.own (xs := [m, n, q]) h) (by simp)).mono fun v w' ⟨e, u⟩ => ⟨by rw [e]; simp, u⟩
set_option maxHeartbeats 4000000 in
theorem isMessage_c (x : Msg) (w0 : World) :
    CallsV Tryz.prog 204 [.agg #[.int .i64 x.c, .int .i64 x.n, .int .i64 x.r, .int .i64 x.k, .int .i64 x.m, .int .i64 x.v]] w0 (fun v w' => v = .bool (okMsg x) ∧ Ext w0 w') := by
 refine f_n func204 ?_
 refine go ?_
 refine x_b fun bk2 w3 ebk2 sbk2 B4 u5 => ?_
 refine go ?_
 refine x_l fun bk8 w9 ebk8 sbk8 B10 u11 => ?_
 refine x_c func200 rfl rfl (within1_vF 0 9 x.c _ _ _ B10) ?_
 rintro _ w14 ⟨rfl, u15⟩ zu15
 refine go ?_
 refine t_splitp 7 rfl (fun g7 => ?_) (fun g7 => ?_)
 ·
  refine go ?_
  refine x_l fun bk18 w19 ebk18 sbk18 B20 u21 => ?_
  refine x_c func200 rfl rfl (within1_vF 0 999 x.n _ _ _ B20) ?_
  rintro _ w24 ⟨rfl, u25⟩ zu25
  refine go ?_
  refine t_splitp 13 rfl (fun g13 => ?_) (fun g13 => ?_)
  ·
   refine go ?_
   refine x_l fun bk28 w29 ebk28 sbk28 B30 u31 => ?_
   refine x_c func200 rfl rfl (within1_vF 0 99 x.r _ _ _ B30) ?_
   rintro _ w34 ⟨rfl, u35⟩ zu35
   refine go ?_
   refine t_splitp 19 rfl (fun g19 => ?_) (fun g19 => ?_)
   ·
    refine go ?_
    refine t_splitp 24 rfl (fun g24 => ?_) (fun g24 => ?_)
    ·
     refine go ?_
     refine t_splitp 29 rfl (fun g29 => ?_) (fun g29 => ?_)
     ·
      refine go ?_
      refine x_l fun bk38 w39 ebk38 sbk38 B40 u41 => ?_
      refine x_c func200 rfl rfl (within1_vF 0 100000 x.m _ _ _ B40) ?_
      rintro _ w44 ⟨rfl, u45⟩ zu45
      refine go ?_
      refine t_splitp 35 rfl (fun g35 => ?_) (fun g35 => ?_)
      ·
       refine go ?_
       refine x_l fun bk48 w49 ebk48 sbk48 B50 u51 => ?_
       refine x_c func200 rfl rfl (within1_vF 0 1000000 x.v _ _ _ B50) ?_
       rintro _ w54 ⟨rfl, u55⟩ zu55
       refine go ?_
       refine f_1 results204 ?_
       exact ⟨congrArg Value.bool (by rw [Bool.eq_iff_iff]; simp only [okMsg, decide_eq_true_eq] <;> grind), u_d⟩
      refine go ?_
      refine f_1 results204 ?_
      exact ⟨congrArg Value.bool (by rw [Bool.eq_iff_iff]; simp only [okMsg, decide_eq_true_eq] <;> grind), u_d⟩
     refine go ?_
     refine f_1 results204 ?_
     exact ⟨congrArg Value.bool (by rw [Bool.eq_iff_iff]; simp only [okMsg, decide_eq_true_eq] <;> grind), u_d⟩
    refine go ?_
    refine f_1 results204 ?_
    exact ⟨congrArg Value.bool (by rw [Bool.eq_iff_iff]; simp only [okMsg, decide_eq_true_eq] <;> grind), u_d⟩
   refine go ?_
   refine f_1 results204 ?_
   exact ⟨congrArg Value.bool (by rw [Bool.eq_iff_iff]; simp only [okMsg, decide_eq_true_eq] <;> grind), u_d⟩
  refine go ?_
  refine f_1 results204 ?_
  exact ⟨congrArg Value.bool (by rw [Bool.eq_iff_iff]; simp only [okMsg, decide_eq_true_eq] <;> grind), u_d⟩
 refine go ?_
 refine f_1 results204 ?_
 exact ⟨congrArg Value.bool (by rw [Bool.eq_iff_iff]; simp only [okMsg, decide_eq_true_eq] <;> grind), u_d⟩
theorem badMsg_c (x : Msg) (w0 : World) :
    CallsV Tryz.prog 203 [.agg #[.int .i64 x.c, .int .i64 x.n, .int .i64 x.r, .int .i64 x.k, .int .i64 x.m, .int .i64 x.v]] w0 (fun v w' => v = .bool (!okMsg x) ∧ Ext w0 w') := by
 refine f_n func203 ?_
 refine go ?_
 refine x_b fun bk2 w3 ebk2 sbk2 B4 u5 => ?_
 refine go ?_
 refine x_c func204 rfl rfl (isMessage_c x _) ?_
 rintro _ w9 ⟨rfl, u10⟩ zu10
 refine go ?_
 refine f_1 results203 ?_
 exact ⟨rfl, u_d⟩
theorem badFre_c (x : Fre) (w0 : World) :
    CallsV Tryz.prog 202 [.agg #[.int .i64 x.f, .int .i64 x.t]] w0 (fun v w' => v = .bool (!okFre x) ∧ Ext w0 w') := by
 refine f_n func202 ?_
 refine go ?_
 refine x_b fun bk2 w3 ebk2 sbk2 B4 u5 => ?_
 refine go ?_
 refine x_l fun bk8 w9 ebk8 sbk8 B10 u11 => ?_
 refine x_c func200 rfl rfl (within2_vF 0 100000 x.f x.t _ _ _ B10) ?_
 rintro _ w14 ⟨rfl, u15⟩ zu15
 refine go ?_
 refine t_splitp 10 rfl (fun g10 => ?_) (fun g10 => ?_)
 ·
  refine go ?_
  refine f_1 results202 ?_
  exact ⟨congrArg Value.bool (by rw [Bool.eq_iff_iff]; simp only [okFre, Bool.not_eq_eq_eq_not] <;> grind), u_d⟩
 refine go ?_
 refine f_1 results202 ?_
 exact ⟨congrArg Value.bool (by rw [Bool.eq_iff_iff]; simp only [okFre, decide_eq_true_eq, Bool.not_eq_eq_eq_not] <;> grind), u_d⟩
theorem badLow_c (x : Low) (w0 : World) :
    CallsV Tryz.prog 199 [.agg #[.int .i64 x.b, .int .i64 x.p]] w0 (fun v w' => v = .bool (!okLow x) ∧ Ext w0 w') := by
 refine f_n func199 ?_
 refine go ?_
 refine x_b fun bk2 w3 ebk2 sbk2 B4 u5 => ?_
 refine go ?_
 refine x_l fun bk8 w9 ebk8 sbk8 B10 u11 => ?_
 refine x_c func200 rfl rfl (within1_vF 0 10000 x.b _ _ _ B10) ?_
 rintro _ w14 ⟨rfl, u15⟩ zu15
 refine go ?_
 refine t_splitp 8 rfl (fun g8 => ?_) (fun g8 => ?_)
 ·
  refine go ?_
  refine f_1 results199 ?_
  exact ⟨congrArg Value.bool (by rw [Bool.eq_iff_iff]; simp only [okLow, Bool.not_eq_eq_eq_not] <;> grind), u_d⟩
 refine go ?_
 refine x_l fun bk18 w19 ebk18 sbk18 B20 u21 => ?_
 refine x_c func200 rfl rfl (within1_vF 0 1000 x.p _ _ _ B20) ?_
 rintro _ w24 ⟨rfl, u25⟩ zu25
 refine go ?_
 refine f_1 results199 ?_
 exact ⟨congrArg Value.bool (by rw [Bool.eq_iff_iff]; simp only [okLow, decide_eq_true_eq, Bool.not_eq_eq_eq_not] <;> grind), u_d⟩
theorem checkFree_c (l : List Fre) (al : Option Addr) (bl ol cl : Nat) (w0 : World) (hl : Sl encFre 2 w0 al bl ol l) (hll : l.length ≤ 1000000) :
    CallsV Tryz.prog 164 [.slice al l.length cl] w0 (fun v w' => v = .int .i64 (chkFr l) ∧ Ext w0 w') := by
 refine f_n func164 ?_
 refine go ?_
 refine q_p (fun g3 => ?_) fun g3 => ?_
 ·
  refine go ?_
  refine f_1 results164 ?_
  exact ⟨congrArg (Value.int .i64) (by unfold chkFr; rw [if_pos (by omega)]), u_d⟩
 refine go ?_
 refine x_c func201 rfl rfl (containsF_c encFre (fun _ => rfl) (fun x => !okFre x) 202 [] l al bl ol cl _ own202 (fun x _ w _ => badFre_c x w) hl hll) ?_
 rintro _ w7 ⟨rfl, u8⟩ zu8
 refine go ?_
 refine q_b (fun g7 => ?_) fun g7 => ?_
 ·
  refine go ?_
  refine f_1 results164 ?_
  exact ⟨congrArg (Value.int .i64) (by unfold chkFr; rw [if_neg (by omega), if_pos g7]), u_d⟩
 refine go ?_
 refine f_1 results164 ?_
 exact ⟨congrArg (Value.int .i64) (by unfold chkFr; rw [if_neg (by omega), if_neg (by simp [g7])]), u_d⟩

end Go.Proofs.YtagmkfbbhfaceaaGreatDoor
namespace Go.Proofs.YtagmkfbbhfaceaaGreatDoor
open Go Go.RowKit

/-- Ascending: no later one is less than an earlier one. -/
def AscC {α : Type} [Inhabited α] (cf : α → α → Int) (ys : List α) : Prop := ∀ i j, i < j → j < ys.length → ¬ cf (nth ys j) (nth ys i) < 0

theorem nth_toArray {α : Type} [Inhabited α] (xs : List α) (i : Nat) : (xs.toArray)[i]! = nth xs i := by
  unfold nth
  rw [List.getD_eq_getElem?_getD]
  rcases Nat.lt_or_ge i xs.length with h | h
  · rw [getElem!_pos _ i (by simpa using h)]
    simp [h]
  · rw [getElem!_neg _ i (by simpa using h)]
    simp [List.getElem?_eq_none h]

theorem upd_sorted {α : Type} [Inhabited α] (enc : α → List Value) (k : Nat) (w : World) (g n : Nat) (d : Array α) (os : Array Obj) : Upd (· = g) w (sortWorldK enc k w g 0 n d os) := by
  refine ⟨rfl, rfl, rfl, ?_, fun i hi hn => ?_⟩
  · simp only [sortWorldK, Go.Sort.putRowK, Go.Sort.grow, Go.Sort.putRow, Go.Sort.mapBlock, Go.Sort.ahead]
    simp
  · simp only [sortWorldK, Go.Sort.putRowK, Go.Sort.grow, Go.Sort.putRow, Go.Sort.mapBlock, Go.Sort.ahead]
    rw [Array.getElem?_append_left (by simpa using hi), Array.getElem?_modify]
    simp [show ¬ g = i from fun e => hn e.symm]

theorem acc_sorted {α : Type} [Inhabited α] {enc : α → List Value} {k : Nat} {e : TypeId} {base : Nat} {w : World} {ao : Option Addr} {g cap : Nat} {xs : List α} (hk0 : 0 < k) (hk : ∀ x, (enc x).length = k) (h : Acc enc k e base w ao g cap xs) (hx : 0 < xs.length)
    (d : Array α) (hd : d.size = xs.length) (n : Nat) (os : Array Obj) : Acc enc k e base (sortWorldK enc k w g 0 n d os) ao g cap d.toList := by
  have u := upd_sorted enc k w g n d os
  refine ⟨Nat.lt_of_lt_of_le h.lt u.size, ?_⟩
  rcases h.at_ with ⟨_, h1, _⟩ | ⟨h1, h2, cur, h3, h4, h5, h6, h7⟩
  · subst h1; simp at hx
  · refine .inr ⟨h1, h2, Go.Sort.putCells id 0 (Go.Sort.flatK enc k d) cur, ?_, by simpa [hd] using h4, h5, by simp [Go.Sort.putCells, h6], ?_⟩
    · simp only [sortWorldK, Go.Sort.putRowK, Go.Sort.grow, Go.Sort.putRow, Go.Sort.mapBlock, Go.Sort.ahead]
      rw [Array.getElem?_append_left (by simpa using h.lt), Array.getElem?_modify]
      simp [h3, Go.Sort.onCells]
    · have hcap : xs.length * k ≤ cap * k := Nat.mul_le_mul_right _ h4
      apply List.ext_getElem?
      intro t
      rcases Nat.lt_or_ge t (xs.length * k) with ht | ht
      · have htd : t / k < d.toList.length := by simp [hd]; exact (Nat.div_lt_iff_lt_mul hk0).2 ht
        have hmod : t % k < k := Nat.mod_lt _ hk0
        have hv : (enc (nth d.toList (t / k)))[t % k]? = some ((enc (nth d.toList (t / k)))[t % k]'(by rw [hk]; exact hmod)) := by simp [hk, hmod]
        have h8 := flatMap_at hk d.toList (t / k) (t % k) _ htd hv
        rw [show t / k * k + t % k = t from Nat.div_add_mod' t k] at h8
        rw [h8, List.getElem?_take, if_pos (by simpa [hd] using ht)]
        have htc : t < cur.size := by omega
        rw [Array.getElem?_toList]
        simp only [Go.Sort.putCells]
        rw [Array.getElem?_mapIdx]
        simp only [Array.getElem?_eq_getElem htc, Option.map_some, Nat.zero_le, true_and, Nat.zero_add, Nat.sub_zero, id]
        rw [if_pos (by rw [Go.Sort.size_flatK, hd]; exact ht), Go.Sort.get_flatK _ _ _ t (by rw [hd]; exact ht)]
        have hda : d[t / k]! = nth d.toList (t / k) := by
          have := nth_toArray d.toList (t / k)
          simpa using this
        rw [hda, getElem!_pos _ (t % k) (by rw [hk]; exact hmod)]
      · rw [List.getElem?_eq_none (by simp [hd]; omega), List.getElem?_eq_none (by rw [flatMap_len hk]; simp [hd]; omega)]

theorem holdsK_acc {α : Type} [Inhabited α] {enc : α → List Value} {k : Nat} {e : TypeId} {base : Nat} {w : World} {ao : Option Addr} {g cap : Nat} {xs : List α} (hk0 : 0 < k) (hk : ∀ x, (enc x).length = k) (h : Acc enc k e base w ao g cap xs) (hx : 0 < xs.length) : Go.Sort.HoldsK enc k w g 0 xs.toArray := by
  intro t ht
  rw [Go.Sort.size_flatK] at ht
  have ht' : t < xs.length * k := by simpa using ht
  rw [Go.Sort.get_flatK _ _ _ t ht, nth_toArray]
  have hmod : t % k < k := Nat.mod_lt _ hk0
  have htd : t / k < xs.length := (Nat.div_lt_iff_lt_mul hk0).2 ht'
  have h8 := (h.sl hk).at_ (t / k) htd (t % k) ((enc (nth xs (t / k)))[t % k]'(by rw [hk]; exact hmod)) (by simp [hk, hmod])
  rw [Nat.zero_add, Nat.div_add_mod'] at h8
  refine ⟨by rw [Nat.zero_add, h8, getElem!_pos _ (t % k) (by rw [hk]; exact hmod)]; rfl, ?_⟩
  rcases h.at_ with ⟨_, h1, _⟩ | ⟨_, _, cur, h3, _⟩
  · subst h1; simp at hx
  · simp [World.frozen?, h3]

/-- A comparison that lays blocks, draws, and turns nothing. -/
def CmpOk {α : Type} (P : Program) (g : Nat) (enc : α → List Value) (cf : α → α → Int) : Prop :=
  ∀ (x y : α) (W : World), Calls P g #[.agg (enc x).toArray, .agg (enc y).toArray] W fun e w' => e = .returned (.int .i64 (cf x y)) ∧ ∃ q os', w' = Go.Sort.grow (W.drewN q) os'

theorem sort_c {α : Type} [Inhabited α] {P : Program} {ρ : Go.Shelf.Ren} (L : SlLaysF0.n6 P ρ) (k : Nat) (hk0 : 0 < k) (aE : ∀ w, (isAgg (ρ.t 24)).run P w = .ok true w) (zE : ∀ w, (sizeOf (ρ.t 24)).run P w = .ok k w) (enc : α → List Value) (hk : ∀ x, (enc x).length = k) (h1 : ∀ x, ∀ v ∈ enc x, v.oneCell' = true)
    (cf : α → α → Int) (hO : Go.Sort.SWO (ltOf cf)) (g : Nat) (eg : Own P g) (hcmp : CmpOk P g enc cf) (e : TypeId) (base : Nat) (ao : Option Addr) (gb cap : Nat) (xs : List α) (w : World) (ha : Acc enc k e base w ao gb cap xs) (hlen : xs.length ≤ 1000000) :
    CallsV P (ρ.f 6) [.slice ao xs.length cap, .func (.func g) #[] #[]] w fun v w' => ∃ ys, List.Perm ys xs ∧ AscC cf ys ∧ Acc enc k e base w' ao gb cap ys ∧ Upd (fun i => i = gb ∧ base ≤ i) w w' ∧ v = .tuple #[] := by
  rcases Nat.eq_zero_or_pos xs.length with h0 | h0
  · have : xs = [] := List.eq_nil_of_length_eq_zero h0
    subst this
    refine Calls.mono (AnyF.slices_SortFunc_none L ao cap _ w) ?_
    rintro e w' ⟨rfl, rfl⟩
    exact ⟨_, rfl, [], List.Perm.refl _, fun i j _ h => by simp at h, ha, Upd.refl _ _, rfl⟩
  · have hao := (ha.sl hk).addr h0
    have hb : base ≤ gb := by
      rcases ha.at_ with ⟨_, h2, _⟩ | ⟨_, h2, _⟩
      · subst h2; simp at h0
      · exact h2
    have hc := AnyQ.slices_SortFunc L k aE zE enc hk h1 cf hO g #[] gb 0 cap xs.toArray w (fun args w => eg.run args w) (fun m os dk _ x y => hcmp x y _) (holdsK_acc hk0 hk ha h0) ha.lt (by simp; omega)
    have hsz : xs.toArray.size = xs.length := by simp
    rw [hsz] at hc
    subst hao
    refine Calls.mono hc ?_
    rintro e w' ⟨rfl, d', n, os, hp, hs, rfl⟩
    have hds : d'.size = xs.length := by rw [hp.1]; simp
    have hdl : d'.toList.length = xs.length := by simpa using hds
    have hacc := acc_sorted hk0 hk ha h0 d' hds n os
    refine ⟨_, rfl, d'.toList, ?_, ?_, hacc, (upd_sorted enc k w gb n d' os).mono (fun i hi => ⟨hi, by omega⟩), rfl⟩
    · have h3 := hp.2.2
      rw [show d'.extract 0 xs.length = d' from by rw [← hds]; exact Array.extract_size, show xs.toArray.extract 0 xs.length = xs.toArray from by rw [← hsz]; exact Array.extract_size] at h3
      simpa using h3
    · intro i j hij hj
      have h4 := hs i j (Nat.zero_le _) hij (by omega)
      have hn : ∀ i, d'[i]! = nth d'.toList i := fun i => by have := nth_toArray d'.toList i; simpa using this
      rw [hn, hn] at h4
      unfold ltOf at h4
      simpa using h4

end Go.Proofs.YtagmkfbbhfaceaaGreatDoor
namespace Go.Proofs.YtagmkfbbhfaceaaGreatDoor
open Go Go.RowKit

theorem Gr.grow {w w' : World} (h : Gr w w') : ∃ q os', w' = Go.Sort.grow (w.drewN q) os' := by
  obtain ⟨h1, h2, h3, h4, os, h5⟩ := h
  refine ⟨w'.drawn - w.drawn, os, ?_⟩
  cases w; cases w'
  simp only [Go.Sort.grow, World.drewN] at *
  simp_all
theorem len_cC {P : Program} {ρ : Go.Shelf.Ren} (L : SlLaysF0.n14 P ρ) (n : Nat) (hn : n ≤ 1000000) (w : World) : CallsV P (ρ.f 15) [.int .u64 (n : Int)] w fun v w' => ∃ k : Nat, v = .int .i64 (k : Int) ∧ k < 4611686018427387904 ∧ Ext w w' := by
  have h := Any.bits_Len (SlLaysF0.n15.bits (P := P) (ρ := ρ) { L with }) (n : Int) w (by omega) (by omega)
  rw [Int.toNat_natCast] at h
  refine Calls.mono h ?_
  rintro e w' ⟨rfl, rfl⟩
  exact ⟨_, rfl, Lib.bitLen n, rfl, Nat.lt_of_le_of_lt (Lib.bitLen_le n 62 (by omega) (by omega)) (by omega), Upd.refl _ _⟩
theorem pdq_c {α : Type} [Inhabited α] {P : Program} {ρ : Go.Shelf.Ren} (L : SlLaysF0.n14 P ρ) (k : Nat) (hk0 : 0 < k) (aE : ∀ w, (isAgg (ρ.t 24)).run P w = .ok true w) (zE : ∀ w, (sizeOf (ρ.t 24)).run P w = .ok k w) (enc : α → List Value) (hk : ∀ x, (enc x).length = k) (h1 : ∀ x, ∀ v ∈ enc x, v.oneCell' = true)
    (cf : α → α → Int) (hO : Go.Sort.SWO (ltOf cf)) (g : Nat) (eg : Own P g) (hcmp : CmpOk P g enc cf) (e : TypeId) (base : Nat) (ao : Option Addr) (gb cap : Nat) (xs : List α) (lim : Nat) (hlim : lim < 4611686018427387904) (w : World) (ha : Acc enc k e base w ao gb cap xs) (hlen : xs.length ≤ 1000000) :
    CallsV P (ρ.f 14) [.slice ao xs.length cap, .int .i64 0, .int .i64 (xs.length : Int), .int .i64 (lim : Int), .func (.func g) #[] #[]] w fun v w' => ∃ ys, List.Perm ys xs ∧ AscC cf ys ∧ Acc enc k e base w' ao gb cap ys ∧ Upd (fun i => i = gb ∧ base ≤ i) w w' ∧ v = .tuple #[] := by
  rcases Nat.eq_zero_or_pos xs.length with h0 | h0
  · have : xs = [] := List.eq_nil_of_length_eq_zero h0
    subst this
    refine Calls.mono (AnyF.pdqsortCmpFunc_none L ao cap lim _ w) ?_
    rintro e w' ⟨rfl, rfl⟩
    exact ⟨_, rfl, [], List.Perm.refl _, fun i j _ h => by simp at h, ha, Upd.refl _ _, rfl⟩
  · have hao := (ha.sl hk).addr h0
    have hb : base ≤ gb := by
      rcases ha.at_ with ⟨_, h2, _⟩ | ⟨_, h2, _⟩
      · subst h2; simp at h0
      · exact h2
    have hsz : xs.toArray.size = xs.length := by simp
    have hH := holdsK_acc hk0 hk ha h0
    have hc := AnyQ.pdqsortCmpFunc_all L k aE zE enc cf g #[] hO gb 0 cap xs.toArray w (fun args w => eg.run args w) (fun m os dk _ x y => hcmp x y _) ⟨hk, h1, hH, ha.lt⟩ (xs.length + 1) 0 xs.length lim xs.toArray w (by omega) rfl (SWK.start hH) (Nat.zero_le _) (by rw [hsz]; exact Nat.le_refl _) (by rw [hsz]; omega) hlim (Or.inl rfl)
    rw [hsz] at hc
    subst hao
    refine Calls.mono hc ?_
    rintro e w' ⟨rfl, n, os, rfl⟩
    have hps := Go.Sort.pdq_sorts (ltOf cf) hO xs.toArray 0 xs.length lim true true (Nat.zero_le _) (by rw [hsz]; exact Nat.le_refl _) (Or.inl rfl)
    have hp := hps.1
    have hs := hps.2
    generalize Go.Sort.pdq (ltOf cf) xs.toArray 0 xs.length lim true true = d' at hp hs ⊢
    have hds : d'.size = xs.length := by rw [hp.1]; simp
    have hdl : d'.toList.length = xs.length := by simpa using hds
    have hacc := acc_sorted hk0 hk ha h0 d' hds n os
    refine ⟨_, rfl, d'.toList, ?_, ?_, hacc, (upd_sorted enc k w gb n d' os).mono (fun i hi => ⟨hi, by omega⟩), rfl⟩
    · have h3 := hp.2.2
      rw [show d'.extract 0 xs.length = d' from by rw [← hds]; exact Array.extract_size, show xs.toArray.extract 0 xs.length = xs.toArray from by rw [← hsz]; exact Array.extract_size] at h3
      simpa using h3
    · intro i j hij hj
      have h4 := hs i j (Nat.zero_le _) hij (by omega)
      have hn : ∀ i, d'[i]! = nth d'.toList i := fun i => by have := nth_toArray d'.toList i; simpa using this
      rw [hn, hn] at h4
      unfold ltOf at h4
      simpa using h4
end Go.Proofs.YtagmkfbbhfaceaaGreatDoor
