/-
  Part 16 of the proof: contracts and plain laws. Conditions: none.
-/
import Derived.Test.YtgoajalaomakpaaGreatIK15
namespace Go.Proofs.YtgoajalaomakpaaGreat
open Go Go.RowKit Go.Proofs.Tryz

structure T2 where
  a : Int
  b : Int
instance : Inhabited T2 := ⟨⟨default, default⟩⟩
def encU2 (x : T2) : List Value := [.int .u8 x.a, .int .u8 x.b]
def encX2 (x : T2) : List Value := [.int .u16 x.a, .int .u16 x.b]
def okU2 (x : T2) : Prop := (0 ≤ x.a ∧ x.a ≤ 255) ∧ (0 ≤ x.b ∧ x.b ≤ 255)
def okX2 (x : T2) : Prop := (0 ≤ x.a ∧ x.a ≤ 65535) ∧ (0 ≤ x.b ∧ x.b ≤ 65535)
structure Cll where
  p0 : Int
  p1 : Int
  p2 : Int
  t0 : Int
  t1 : Int
  t2 : Int
  t3 : Int
  t4 : Int
  t5 : Int
  n : Int
  e : Int
  v0 : Int
  v1 : Int
instance : Inhabited Cll := ⟨⟨default, default, default, default, default, default, default, default, default, default, default, default, default⟩⟩
def okCll (x : Cll) : Prop := (0 ≤ x.p0 ∧ x.p0 ≤ 255) ∧ (0 ≤ x.p1 ∧ x.p1 ≤ 255) ∧ (0 ≤ x.p2 ∧ x.p2 ≤ 255) ∧ (0 ≤ x.t0 ∧ x.t0 ≤ 65535) ∧ (0 ≤ x.t1 ∧ x.t1 ≤ 65535) ∧ (0 ≤ x.t2 ∧ x.t2 ≤ 65535) ∧ (0 ≤ x.t3 ∧ x.t3 ≤ 65535) ∧ (0 ≤ x.t4 ∧ x.t4 ≤ 65535) ∧ (0 ≤ x.t5 ∧ x.t5 ≤ 65535) ∧ (0 ≤ x.n ∧ x.n ≤ 65535) ∧ (0 ≤ x.e ∧ x.e ≤ 65535) ∧ (0 ≤ x.v0 ∧ x.v0 ≤ 65535) ∧ (0 ≤ x.v1 ∧ x.v1 ≤ 65535)
/-- The minute behind the first stops. -/
def rpA (a : Int) (ss : List T2) : Nat → Int
  | 0 => a
  | k + 1 => rpA a ss k + (nth ss k).a + (nth ss k).b
theorem rpA_bd {a : Int} {ss : List T2} (ha : 0 ≤ a ∧ a ≤ 999) (hs : ∀ x ∈ ss, okU2 x) : ∀ {k : Nat}, k ≤ ss.length → 0 ≤ rpA a ss k ∧ rpA a ss k ≤ 999 + 510 * (k : Int)
  | 0, _ => by unfold rpA; omega
  | k + 1, h => by
    have h1 := rpA_bd ha hs (k := k) (by omega)
    have h2 := hs _ (nth_mem (xs := ss) (i := k) (by omega))
    unfold okU2 at h2
    unfold rpA
    omega
/-- A report's messages up to a stop. -/
def rpL (c : Int) (cor : Bool) (a : Int) (ss : List T2) : Nat → List Msg
  | 0 => [⟨c, 1, 0, 1, a, 0⟩]
  | k + 1 => rpL c cor a ss k ++ [⟨c, 10 + 2 * (k : Int), 2, 2, rpA a ss k + (nth ss k).a, 0⟩] ++ (if cor = true then [⟨c, 10 + 2 * (k : Int), 1, 4, rpA a ss k + (nth ss k).a + 3, 0⟩] else []) ++ [⟨c, 11 + 2 * (k : Int), 0, 3, rpA a ss k + (nth ss k).a + (nth ss k).b, 0⟩]
theorem rpL_len {c : Int} {cor : Bool} {a : Int} {ss : List T2} : ∀ k, (rpL c cor a ss k).length ≤ 3 * k + 1
  | 0 => Nat.le_refl _
  | k + 1 => by
    have := rpL_len (c := c) (cor := cor) (a := a) (ss := ss) k
    rw [rpL, List.length_append, List.length_append, List.length_append]
    split <;> simp only [List.length_cons, List.length_nil] <;> omega
/-- A call's report. -/
def rpP (c : Int) (cor : Bool) (x : Cll) (ss : List T2) : List Msg := rpL c cor (x.n % 1000) ss (min ss.length 8) ++ [⟨c, 500, 0, 4, rpA (x.n % 1000) ss (min ss.length 8) + x.e % 2500, 0⟩, ⟨c, 600, 0, 5, 7, x.v0⟩, ⟨c, 601, 0, 6, 9, x.v1 % 400⟩] ++ (if cor = true then [⟨c, 700, 0, 1, 0, 0⟩, ⟨c, 700, 9, 7, 5, 0⟩] else [])
theorem rpP_len {c : Int} {cor : Bool} {x : Cll} {ss : List T2} : (rpP c cor x ss).length ≤ 30 := by
  have := rpL_len (c := c) (cor := cor) (a := x.n % 1000) (ss := ss) (min ss.length 8)
  unfold rpP
  rw [List.length_append, List.length_append]
  split <;> simp only [List.length_cons, List.length_nil] <;> omega
/-- A call's charter. -/
def tmC (x : Cll) : Chr := ⟨x.p0 % 5, x.p1 % 5, x.p2 % 5, x.t0, x.t1, x.t2 % 2000, x.t3 % 300, 3 * x.t4, 2 * x.t4, x.t5 % 101⟩
def tmW (x : Cll) : List Low := [⟨100, x.t5 % 60⟩, ⟨100 + x.t3 % 200 + 1, 15⟩]
/-- Holidays by small numbers. -/
def spF (x : T2) : Fre := ⟨x.a % 4000, x.a % 4000 + x.b % 800⟩
def spL (xs : List T2) : List Fre := (xs.take 10).map spF
theorem spans_c (xs : List T2) (ax : Option Addr) (bx ox cx : Nat) (w0 : World) (hx : Sl encX2 2 w0 ax bx ox xs) (hxl : xs.length ≤ 9223372036854775807) (hxs : ∀ x ∈ xs, okX2 x) :
    CallsV Tryz.prog 21 [.slice ax xs.length cx] w0 (fun v w' => (∃ ao g cp, v = .slice ao (List.length (spL xs)) cp ∧ Sl encFre 2 w' ao g 0 (spL xs) ∧ (0 < (spL xs).length → w0.heap.size ≤ g) ∧ w0.heap.size < w'.heap.size) ∧ Ext w0 w') := by
 refine f_n func21 ?_
 refine go ?_
 refine x_l fun bk3 w4 ebk3 sbk3 B5 u6 => ?_
 refine go ?_
 refine x_l4 (fun i => bk3 ≤ i) [0] (fun (k : Nat) (ao : Option Addr) (gw : Nat) (co : Nat) => [(3, .slice ao (((xs.take k).map spF).length) co), (4, .int .i64 (k : Int))]) (fun k ao gw co w => (k ≤ xs.length ∧ k ≤ 10) ∧ (Acc encFre 2 88 bk3 w ao gw co ((xs.take k).map spF))) (fun k ao gw co => 10 - k) 0 (some ⟨bk3, 0, none⟩) bk3 0 ⟨(by omega), (Acc.ofBlk (xs := ([] : List Fre)) encFre 2 (fun _ => rfl) B5 (Nat.le_refl _) (by decide))⟩ ?_
 rintro k ao gw co w11 ⟨hk, hout⟩ u12 zu12 K10 hK10
 have lt_gw := hout.lt
 have hol : ((xs.take k).map spF).length = k := by rw [List.length_map, List.length_take]; omega
 refine st1 ?_
 refine x_k1 (fun _ => False) [0, 3, 4] (fun (qa : Bool) => [(14, .bool qa)]) (fun qa w => (qa = true ↔ (k < xs.length ∧ k < 10))) (fun K19 hK19 => ?_) ?_
 ·
  refine go ?_
  refine t_splitp 11 rfl (fun g11 => ?_) (fun g11 => ?_)
  ·
   refine go ?_
   exact hK19 (decide ((k : Int) < 10)) (by rw [decide_eq_true_eq]; omega)
  refine go ?_
  exact hK19 false (⟨fun h => (by cases h), fun h => absurd h (by omega)⟩)
 rintro qa w20 hqa u21 zu21
 have E22 := Sc.mk ((((Upd.refl (fun _ => False) w0).nx u6).next u12 (fun i hi (h : bk3 ≤ i) => show False by first | omega | assumption)).nx u21)
 refine q_b (fun g14 => ?_) fun g14 => ?_
 ·
  have hqa9 := hqa.1 g14
  have hp9 := hx.lt (by omega)
  have hx9 := hxs _ (nth_mem (xs := xs) (i := k) (by omega))
  unfold okX2 at hx9
  have hst9 : (xs.take (k + 1)).map spF = ((xs.take k).map spF) ++ [spF (nth xs k)] := by rw [take_nth (by omega), List.map_append]; rfl
  refine go ?_
  refine g_i k (hx.keep E22.u (fun _ h => h)) (fun _ => ?_)
  refine t_indexArr (j := 0) (ox + k * 2 + 0) underlying68 sizeOf65 rfl rfl rfl rfl rfl (by decide) rfl ?_
  refine go ?_
  refine t_conv underlying65 underlying3 rfl rfl rfl (IntWalk.i64_in _ (by omega)) (t_rem rfl rfl rfl rfl (by omega) (by omega) ?_)
  refine go ?_
  refine g_i k (hx.keep E22.u (fun _ h => h)) (fun _ => ?_)
  refine t_indexArr (j := 1) (ox + k * 2 + 1) underlying68 sizeOf65 rfl rfl rfl rfl rfl (by decide) rfl ?_
  refine go ?_
  refine t_conv underlying65 underlying3 rfl rfl rfl (IntWalk.i64_in _ (by omega)) (t_rem rfl rfl rfl rfl (by omega) (by omega) ?_)
  refine go ?_
  refine x_l fun bk27 w28 ebk27 sbk27 B29 u30 => ?_
  have D32 := ((hout.keep u21 (fun _ h => h)).keep u30 (fun _ h => h))
  refine t_append (z := .agg #[.int .i64 0, .int .i64 0]) (bytes := 16) (k := 2) (base := bk3) (spF (nth xs k)) underlying56 (by kernel_rfl) rfl (by decide) (fun _ => rfl) (by intro x; simp [encFre, Value.oneCell']) rfl rfl rfl rfl D32 B29 (by omega) (by omega) (by decide) (fun ao33 gb34 cp35 w36 A37 u38 gegb34 lngb34 => ?_)
  have zu38 := u38.size
  have lt_gb34 := A37.lt
  refine go ?_
  exact hK10 (k + 1) ao33 gb34 cp35 ⟨(by omega), (by rw [hst9]; exact A37)⟩ (hs := by exact ⟨(by first | (rw [hst9]; rfl) | rfl), rfl, rfl, trivial⟩) (hu := (((u12.nx u21).nx u30).next u38 (fun i hi (h : (i = gw ∧ bk3 ≤ i)) => show bk3 ≤ i by first | omega | assumption)))
 have hqb9 : ¬ (k < xs.length ∧ k < 10) := fun q => by rw [hqa.2 q] at g14; cases g14
 have hend : (xs.take k).map spF = spL xs := by
   unfold spL
   rcases Nat.lt_or_ge k 10 with q | q
   · rw [List.take_of_length_le (by omega), List.take_of_length_le (by omega)]
   · rw [show k = 10 by omega]
 refine go ?_
 refine f_1 results21 ?_
 have D41 := (hout.keep u21 (fun _ h => h))
 have hA9 := D41
 exact ⟨⟨_, _, _, by rw [hend], (by rw [← hend]; exact hA9.sl (fun _ => rfl)), fun h9 => by have := hA9.ge (by rw [hend]; exact h9); omega, by omega⟩, u_d⟩

theorem terms_c (x : Cll) (ss : List T2) (al : Option Addr) (cl : Nat) (w0 : World) (hx : okCll x) :
    CallsV Tryz.prog 30 [.agg #[.int .u8 x.p0, .int .u8 x.p1, .int .u8 x.p2, .int .u16 x.t0, .int .u16 x.t1, .int .u16 x.t2, .int .u16 x.t3, .int .u16 x.t4, .int .u16 x.t5, .int .u16 x.n, .slice al ss.length cl, .int .u16 x.e, .int .u16 x.v0, .int .u16 x.v1]] w0 (fun v w' => (∃ g, v = .agg #[.int .i64 (tmC x).s, .int .i64 (tmC x).c, .int .i64 (tmC x).k, .int .i64 (tmC x).r, .int .i64 (tmC x).n, .int .i64 (tmC x).l, .int .i64 (tmC x).o, .int .i64 (tmC x).d, .int .i64 (tmC x).e, .int .i64 (tmC x).m, .slice (some ⟨g, 0, none⟩) (tmW x).length 2] ∧ w0.heap.size ≤ g ∧ Sl encLow 2 w' (some ⟨g, 0, none⟩) g 0 (tmW x)) ∧ Ext w0 w') := by
 unfold okCll at hx
 refine f_n func30 ?_
 refine go ?_
 refine x_b fun bk2 w3 ebk2 sbk2 B4 u5 => ?_
 refine x_n fun bk7 w8 ebk7 sbk7 B9 u10 => ?_
 refine go ?_
 refine x_n fun bk13 w14 ebk13 sbk13 B15 u16 => ?_
 refine x_s fun w18 sw18 B20 u19 => ?_
 refine go ?_
 refine t_indexArr (j := 0) (0) underlying64 sizeOf5 rfl rfl rfl rfl rfl (by decide) rfl ?_
 refine go ?_
 refine t_conv underlying5 underlying3 rfl rfl rfl (IntWalk.i64_in _ (by omega)) (t_rem rfl rfl rfl rfl (by omega) (by omega) ?_)
 refine go ?_
 refine t_indexArr (j := 1) (1) underlying64 sizeOf5 rfl rfl rfl rfl rfl (by decide) rfl ?_
 refine go ?_
 refine t_conv underlying5 underlying3 rfl rfl rfl (IntWalk.i64_in _ (by omega)) (t_rem rfl rfl rfl rfl (by omega) (by omega) ?_)
 refine go ?_
 refine t_indexArr (j := 2) (2) underlying64 sizeOf5 rfl rfl rfl rfl rfl (by decide) rfl ?_
 refine go ?_
 refine t_conv underlying5 underlying3 rfl rfl rfl (IntWalk.i64_in _ (by omega)) (t_rem rfl rfl rfl rfl (by omega) (by omega) (t_indexArr (j := 0) (0) underlying66 sizeOf65 rfl rfl rfl rfl rfl (by decide) rfl ?_))
 refine go ?_
 refine t_conv underlying65 underlying3 rfl rfl rfl (IntWalk.i64_in _ (by omega)) (t_indexArr (j := 1) (1) underlying66 sizeOf65 rfl rfl rfl rfl rfl (by decide) rfl ?_)
 refine go ?_
 refine t_conv underlying65 underlying3 rfl rfl rfl (IntWalk.i64_in _ (by omega)) (t_indexArr (j := 2) (2) underlying66 sizeOf65 rfl rfl rfl rfl rfl (by decide) rfl ?_)
 refine go ?_
 refine t_conv underlying65 underlying3 rfl rfl rfl (IntWalk.i64_in _ (by omega)) (t_rem rfl rfl rfl rfl (by omega) (by omega) (t_indexArr (j := 3) (3) underlying66 sizeOf65 rfl rfl rfl rfl rfl (by decide) rfl ?_))
 refine go ?_
 refine t_conv underlying65 underlying3 rfl rfl rfl (IntWalk.i64_in _ (by omega)) (t_rem rfl rfl rfl rfl (by omega) (by omega) (t_indexArr (j := 4) (4) underlying66 sizeOf65 rfl rfl rfl rfl rfl (by decide) rfl ?_))
 refine go ?_
 refine t_conv underlying65 underlying3 rfl rfl rfl (IntWalk.i64_in _ (by omega)) ?_
 refine go ?_
 refine t_indexArr (j := 4) (4) underlying66 sizeOf65 rfl rfl rfl rfl rfl (by decide) rfl ?_
 refine go ?_
 refine t_conv underlying65 underlying3 rfl rfl rfl (IntWalk.i64_in _ (by omega)) ?_
 refine go ?_
 refine t_indexArr (j := 5) (5) underlying66 sizeOf65 rfl rfl rfl rfl rfl (by decide) rfl ?_
 refine go ?_
 refine t_conv underlying65 underlying3 rfl rfl rfl (IntWalk.i64_in _ (by omega)) (t_rem rfl rfl rfl rfl (by omega) (by omega) (t_indexArr (j := 5) (5) underlying66 sizeOf65 rfl rfl rfl rfl rfl (by decide) rfl ?_))
 refine go ?_
 refine t_conv underlying65 underlying3 rfl rfl rfl (IntWalk.i64_in _ (by omega)) (t_rem rfl rfl rfl rfl (by omega) (by omega) ?_)
 refine go ?_
 refine t_indexArr (j := 3) (3) underlying66 sizeOf65 rfl rfl rfl rfl rfl (by decide) rfl ?_
 refine go ?_
 refine t_conv underlying65 underlying3 rfl rfl rfl (IntWalk.i64_in _ (by omega)) (t_rem rfl rfl rfl rfl (by omega) (by omega) ?_)
 refine go ?_
 refine x_l fun bk23 w24 ebk23 sbk23 B25 u26 => ?_
 refine go ?_
 refine x_s fun w28 sw28 B30 u29 => ?_
 refine go ?_
 refine f_ret1 (v := .agg #[.int .i64 (x.p0 % 5), .int .i64 (x.p1 % 5), .int .i64 (x.p2 % 5), .int .i64 x.t0, .int .i64 x.t1, .int .i64 (x.t2 % 2000), .int .i64 (x.t3 % 300), .int .i64 (3 * x.t4), .int .i64 (2 * x.t4), .int .i64 (x.t5 % 101), .slice (some ⟨bk23, 0, none⟩) 2 2]) results30 ⟨_, _, rfl, run_loadVarN (vs := [.int .i64 (x.p0 % 5), .int .i64 (x.p1 % 5), .int .i64 (x.p2 % 5), .int .i64 x.t0, .int .i64 x.t1, .int .i64 (x.t2 % 2000), .int .i64 (x.t3 % 300), .int .i64 (3 * x.t4), .int .i64 (2 * x.t4), .int .i64 (x.t5 % 101), .slice (some ⟨bk23, 0, none⟩) 2 2]) isAgg78 sizeOf78 rfl (B30.at.sub 0 11)⟩ ?_
 have B32 := (B25.keep u29 (by omega))
 exact ⟨⟨bk23, rfl, by omega, Sl.ofBlk (enc := encLow) (xs := tmW x) (fun _ => rfl) B32⟩, u_d⟩

set_option maxHeartbeats 4000000 in
theorem report_c (x : Cll) (ss : List T2) (al : Option Addr) (bl ol cl : Nat) (c : Int) (cor : Bool) (w0 : World) (hx : okCll x) (hl : Sl encU2 2 w0 al bl ol ss) (hll : ss.length ≤ 9223372036854775807) (hss : ∀ x ∈ ss, okU2 x) (_hc : 0 ≤ c ∧ c ≤ 100) :
    CallsV Tryz.prog 26 [.agg #[.int .u8 x.p0, .int .u8 x.p1, .int .u8 x.p2, .int .u16 x.t0, .int .u16 x.t1, .int .u16 x.t2, .int .u16 x.t3, .int .u16 x.t4, .int .u16 x.t5, .int .u16 x.n, .slice al ss.length cl, .int .u16 x.e, .int .u16 x.v0, .int .u16 x.v1], .int .i64 c, .bool cor] w0 (fun v w' => (∃ ao g cp, v = .slice ao (List.length (rpP c cor x ss)) cp ∧ Sl encMsg 6 w' ao g 0 (rpP c cor x ss) ∧ w0.heap.size ≤ g ∧ w0.heap.size < w'.heap.size) ∧ Ext w0 w') := by
 unfold okCll at hx
 refine f_n func26 ?_
 refine go ?_
 refine x_b fun bk2 w3 ebk2 sbk2 B4 u5 => ?_
 refine go ?_
 refine t_conv underlying65 underlying3 rfl rfl rfl (IntWalk.i64_in _ (by omega)) (t_rem rfl rfl rfl rfl (by omega) (by omega) ?_)
 refine go ?_
 refine x_l fun bk9 w10 ebk9 sbk9 B11 u12 => ?_
 refine go ?_
 refine x_l4 (fun i => bk9 ≤ i) [1, 2, 3] (fun (k : Nat) (ao : Option Addr) (gw : Nat) (co : Nat) => [(7, .int .i64 (rpA (x.n % 1000) ss k)), (8, .slice ao ((rpL c cor (x.n % 1000) ss k).length) co), (9, .int .i64 (k : Int))]) (fun k ao gw co w => (k ≤ ss.length ∧ k ≤ 8) ∧ (Acc encMsg 6 111 bk9 w ao gw co (rpL c cor (x.n % 1000) ss k))) (fun k ao gw co => 8 - k) 0 (some ⟨bk9, 0, none⟩) bk9 1 ⟨(by omega), (Acc.ofBlk (xs := [(⟨c, 1, 0, 1, x.n % 1000, 0⟩ : Msg)]) encMsg 6 (fun _ => rfl) B11 (Nat.le_refl _) (by simp))⟩ ?_
 rintro k ao gw co w17 ⟨hk, hout⟩ u18 zu18 K16 hK16
 have lt_gw := hout.lt
 have hol := rpL_len (c := c) (cor := cor) (a := x.n % 1000) (ss := ss) k
 have hra := rpA_bd (a := x.n % 1000) (by omega) hss (k := k) hk.1
 refine st1 ?_
 refine x_k1 (fun _ => False) [1, 2, 3, 7, 8, 9] (fun (qa : Bool) => [(26, .bool qa)]) (fun qa w => (qa = true ↔ (k < ss.length ∧ k < 8))) (fun K25 hK25 => ?_) ?_
 ·
  refine go ?_
  refine t_splitp 23 rfl (fun g23 => ?_) (fun g23 => ?_)
  ·
   refine go ?_
   exact hK25 (decide ((k : Int) < 8)) (by rw [decide_eq_true_eq]; omega)
  refine go ?_
  exact hK25 false (⟨fun h => (by cases h), fun h => absurd h (by omega)⟩)
 rintro qa w26 hqa u27 zu27
 have E28 := Sc.mk (((((Upd.refl (fun _ => False) w0).nx u5).nx u12).next u18 (fun i hi (h : bk9 ≤ i) => show False by first | omega | assumption)).nx u27)
 refine q_b (fun g26 => ?_) fun g26 => ?_
 ·
  have hqa9 := hqa.1 g26
  have hp9 := hl.lt (by omega)
  have hx9 := hss _ (nth_mem (xs := ss) (i := k) (by omega))
  unfold okU2 at hx9
  refine go ?_
  refine g_i k (hl.keep E28.u (fun _ h => h)) (fun _ => ?_)
  refine t_indexArr (j := 0) (ol + k * 2 + 0) underlying86 sizeOf5 rfl rfl rfl rfl rfl (by decide) rfl ?_
  refine go ?_
  refine t_conv underlying5 underlying3 rfl rfl rfl (IntWalk.i64_in _ (by omega)) ?_
  refine go ?_
  refine x_l fun bk33 w34 ebk33 sbk33 B35 u36 => ?_
  have D38 := ((hout.keep u27 (fun _ h => h)).keep u36 (fun _ h => h))
  refine t_append (z := .agg #[.int .i64 0, .int .i64 0, .int .i64 0, .int .i64 0, .int .i64 0, .int .i64 0]) (bytes := 48) (k := 6) (base := bk9) (⟨c, 10 + 2 * (k : Int), 2, 2, ((rpA (x.n % 1000) ss k) + (nth ss k).a), 0⟩ : Msg) underlying53 (by kernel_rfl) rfl (by decide) (fun _ => rfl) (by intro x; simp [encMsg, Value.oneCell']) rfl rfl rfl rfl D38 B35 (by first | omega | (simp only [List.length_append, List.length_cons, List.length_nil]; omega)) (by first | omega | (simp only [List.length_append, List.length_cons, List.length_nil]; omega)) (by decide) (fun ao39 gb40 cp41 w42 A43 u44 gegb40 lngb40 => ?_)
  have zu44 := u44.size
  have E45 := Sc.mk ((E28.u.nx u36).next u44 (fun i hi h => by omega))
  have lt_gb40 := A43.lt
  refine go ?_
  refine q_b (fun g47 => ?_) fun g47 => ?_
  ·
   refine go ?_
   refine x_l fun bk48 w49 ebk48 sbk48 B50 u51 => ?_
   have D53 := (A43.keep u51 (fun _ h => h))
   refine t_append (z := .agg #[.int .i64 0, .int .i64 0, .int .i64 0, .int .i64 0, .int .i64 0, .int .i64 0]) (bytes := 48) (k := 6) (base := bk9) (⟨c, 10 + 2 * (k : Int), 1, 4, ((rpA (x.n % 1000) ss k) + (nth ss k).a) + 3, 0⟩ : Msg) underlying53 (by kernel_rfl) rfl (by decide) (fun _ => rfl) (by intro x; simp [encMsg, Value.oneCell']) rfl rfl rfl rfl D53 B50 (by first | omega | (simp only [List.length_append, List.length_cons, List.length_nil]; omega)) (by first | omega | (simp only [List.length_append, List.length_cons, List.length_nil]; omega)) (by decide) (fun ao54 gb55 cp56 w57 A58 u59 gegb55 lngb55 => ?_)
   have zu59 := u59.size
   have lt_gb55 := A58.lt
   refine go ?_
   refine g_i k (hl.keep ((E45.u.nx u51).next u59 (fun i hi h => by omega)) (fun _ h => h)) (fun _ => ?_)
   refine t_indexArr (j := 1) (ol + k * 2 + 1) underlying86 sizeOf5 rfl rfl rfl rfl rfl (by decide) rfl ?_
   refine go ?_
   refine t_conv underlying5 underlying3 rfl rfl rfl (IntWalk.i64_in _ (by omega)) ?_
   refine go ?_
   refine x_l fun bk63 w64 ebk63 sbk63 B65 u66 => ?_
   have D68 := (A58.keep u66 (fun _ h => h))
   refine t_append (z := .agg #[.int .i64 0, .int .i64 0, .int .i64 0, .int .i64 0, .int .i64 0, .int .i64 0]) (bytes := 48) (k := 6) (base := bk9) (⟨c, 11 + 2 * (k : Int), 0, 3, ((rpA (x.n % 1000) ss k) + (nth ss k).a) + (nth ss k).b, 0⟩ : Msg) underlying53 (by kernel_rfl) rfl (by decide) (fun _ => rfl) (by intro x; simp [encMsg, Value.oneCell']) rfl rfl rfl rfl D68 B65 (by first | omega | (simp only [List.length_append, List.length_cons, List.length_nil]; omega)) (by first | omega | (simp only [List.length_append, List.length_cons, List.length_nil]; omega)) (by decide) (fun ao69 gb70 cp71 w72 A73 u74 gegb70 lngb70 => ?_)
   have zu74 := u74.size
   have lt_gb70 := A73.lt
   refine go ?_
   have hst9 : (rpL c cor (x.n % 1000) ss (k + 1)) = ((((rpL c cor (x.n % 1000) ss k) ++ [(⟨c, 10 + 2 * (k : Int), 2, 2, ((rpA (x.n % 1000) ss k) + (nth ss k).a), 0⟩ : Msg)]) ++ [(⟨c, 10 + 2 * (k : Int), 1, 4, ((rpA (x.n % 1000) ss k) + (nth ss k).a) + 3, 0⟩ : Msg)]) ++ [(⟨c, 11 + 2 * (k : Int), 0, 3, ((rpA (x.n % 1000) ss k) + (nth ss k).a) + (nth ss k).b, 0⟩ : Msg)]) := by rw [rpL, if_pos g47]
   exact hK16 (k + 1) ao69 gb70 cp71 ⟨(by omega), (by rw [hst9]; exact A73)⟩ (hs := by exact ⟨rfl, (by rw [hst9]; rfl), rfl, rfl, rfl, rfl, trivial⟩) (hu := (((((((u18.nx u27).nx u36).next u44 (fun i hi (h : (i = gw ∧ bk9 ≤ i)) => show bk9 ≤ i by first | omega | assumption)).nx u51).next u59 (fun i hi (h : (i = gb40 ∧ bk9 ≤ i)) => show bk9 ≤ i by first | omega | assumption)).nx u66).next u74 (fun i hi (h : (i = gb55 ∧ bk9 ≤ i)) => show bk9 ≤ i by first | omega | assumption)))
  refine go ?_
  refine g_i k (hl.keep E45.u (fun _ h => h)) (fun _ => ?_)
  refine t_indexArr (j := 1) (ol + k * 2 + 1) underlying86 sizeOf5 rfl rfl rfl rfl rfl (by decide) rfl ?_
  refine go ?_
  refine t_conv underlying5 underlying3 rfl rfl rfl (IntWalk.i64_in _ (by omega)) ?_
  refine go ?_
  refine x_l fun bk78 w79 ebk78 sbk78 B80 u81 => ?_
  have D83 := (A43.keep u81 (fun _ h => h))
  refine t_append (z := .agg #[.int .i64 0, .int .i64 0, .int .i64 0, .int .i64 0, .int .i64 0, .int .i64 0]) (bytes := 48) (k := 6) (base := bk9) (⟨c, 11 + 2 * (k : Int), 0, 3, ((rpA (x.n % 1000) ss k) + (nth ss k).a) + (nth ss k).b, 0⟩ : Msg) underlying53 (by kernel_rfl) rfl (by decide) (fun _ => rfl) (by intro x; simp [encMsg, Value.oneCell']) rfl rfl rfl rfl D83 B80 (by first | omega | (simp only [List.length_append, List.length_cons, List.length_nil]; omega)) (by first | omega | (simp only [List.length_append, List.length_cons, List.length_nil]; omega)) (by decide) (fun ao84 gb85 cp86 w87 A88 u89 gegb85 lngb85 => ?_)
  have zu89 := u89.size
  have lt_gb85 := A88.lt
  refine go ?_
  have hst9 : (rpL c cor (x.n % 1000) ss (k + 1)) = (((rpL c cor (x.n % 1000) ss k) ++ [(⟨c, 10 + 2 * (k : Int), 2, 2, ((rpA (x.n % 1000) ss k) + (nth ss k).a), 0⟩ : Msg)]) ++ [(⟨c, 11 + 2 * (k : Int), 0, 3, ((rpA (x.n % 1000) ss k) + (nth ss k).a) + (nth ss k).b, 0⟩ : Msg)]) := by rw [rpL, if_neg (by rw [g47]; exact Bool.false_ne_true), List.append_nil]
  exact hK16 (k + 1) ao84 gb85 cp86 ⟨(by omega), (by rw [hst9]; exact A88)⟩ (hs := by exact ⟨rfl, (by rw [hst9]; rfl), rfl, rfl, rfl, rfl, trivial⟩) (hu := (((((u18.nx u27).nx u36).next u44 (fun i hi (h : (i = gw ∧ bk9 ≤ i)) => show bk9 ≤ i by first | omega | assumption)).nx u81).next u89 (fun i hi (h : (i = gb40 ∧ bk9 ≤ i)) => show bk9 ≤ i by first | omega | assumption)))
 have hqb9 : ¬ (k < ss.length ∧ k < 8) := fun q => by rw [hqa.2 q] at g26; cases g26
 have hkm : k = min ss.length 8 := by omega
 refine go ?_
 refine t_conv underlying65 underlying3 rfl rfl rfl (IntWalk.i64_in _ (by omega)) (t_rem rfl rfl rfl rfl (by omega) (by omega) ?_)
 refine go ?_
 refine t_indexArr (j := 0) (12) underlying68 sizeOf65 rfl rfl rfl rfl rfl (by decide) rfl ?_
 refine go ?_
 refine t_conv underlying65 underlying3 rfl rfl rfl (IntWalk.i64_in _ (by omega)) ?_
 refine go ?_
 refine t_indexArr (j := 1) (13) underlying68 sizeOf65 rfl rfl rfl rfl rfl (by decide) rfl ?_
 refine go ?_
 refine t_conv underlying65 underlying3 rfl rfl rfl (IntWalk.i64_in _ (by omega)) (t_rem rfl rfl rfl rfl (by omega) (by omega) ?_)
 refine go ?_
 refine x_l fun bk93 w94 ebk93 sbk93 B95 u96 => ?_
 refine t_same 99 (v := .slice (some ⟨bk93, 0, none⟩) 3 3) rfl rfl ?_
 have D98 := ((hout.keep u27 (fun _ h => h)).keep u96 (fun _ h => h))
 refine t_appendAll (enc := encMsg) (z := .agg #[.int .i64 0, .int .i64 0, .int .i64 0, .int .i64 0, .int .i64 0, .int .i64 0]) (bytes := 48) (k := 6) (base := bk9) (xs := (rpL c cor (x.n % 1000) ss k)) (ys := [(⟨c, 500, 0, 4, (rpA (x.n % 1000) ss k) + x.e % 2500, 0⟩ : Msg), ⟨c, 600, 0, 5, 7, x.v0⟩, ⟨c, 601, 0, 6, 9, x.v1 % 400⟩]) underlying53 (by kernel_rfl) rfl (by decide) (fun _ => rfl) (by intro x; simp [encMsg, Value.oneCell']) rfl rfl rfl rfl D98 (Sl.ofBlk (enc := encMsg) (xs := [(⟨c, 500, 0, 4, (rpA (x.n % 1000) ss k) + x.e % 2500, 0⟩ : Msg), ⟨c, 600, 0, 5, 7, x.v0⟩, ⟨c, 601, 0, 6, 9, x.v1 % 400⟩]) (fun _ => rfl) B95) (by omega) (by first | omega | (simp only [List.length_append, List.length_cons, List.length_nil]; omega)) (by first | omega | (simp only [List.length_cons, List.length_nil]; omega)) (by decide) (fun ao99 gb100 cp101 w102 A103 u104 gegb100 lngb100 => ?_)
 have zu104 := u104.size
 have lt_gb100 := A103.lt
 refine go ?_
 refine q_b (fun g101 => ?_) fun g101 => ?_
 ·
  refine go ?_
  refine x_l fun bk108 w109 ebk108 sbk108 B110 u111 => ?_
  refine t_same 107 (v := .slice (some ⟨bk108, 0, none⟩) 2 2) rfl rfl ?_
  have D113 := (A103.keep u111 (fun _ h => h))
  refine t_appendAll (enc := encMsg) (z := .agg #[.int .i64 0, .int .i64 0, .int .i64 0, .int .i64 0, .int .i64 0, .int .i64 0]) (bytes := 48) (k := 6) (base := bk9) (xs := ((rpL c cor (x.n % 1000) ss k) ++ [(⟨c, 500, 0, 4, (rpA (x.n % 1000) ss k) + x.e % 2500, 0⟩ : Msg), ⟨c, 600, 0, 5, 7, x.v0⟩, ⟨c, 601, 0, 6, 9, x.v1 % 400⟩])) (ys := [(⟨c, 700, 0, 1, 0, 0⟩ : Msg), ⟨c, 700, 9, 7, 5, 0⟩]) underlying53 (by kernel_rfl) rfl (by decide) (fun _ => rfl) (by intro x; simp [encMsg, Value.oneCell']) rfl rfl rfl rfl D113 (Sl.ofBlk (enc := encMsg) (xs := [(⟨c, 700, 0, 1, 0, 0⟩ : Msg), ⟨c, 700, 9, 7, 5, 0⟩]) (fun _ => rfl) B110) (by omega) (by first | omega | (simp only [List.length_append, List.length_cons, List.length_nil]; omega)) (by first | omega | (simp only [List.length_cons, List.length_nil]; omega)) (by decide) (fun ao114 gb115 cp116 w117 A118 u119 gegb115 lngb115 => ?_)
  have zu119 := u119.size
  have lt_gb115 := A118.lt
  refine go ?_
  refine f_1 results26 ?_
  have hend : rpP c cor x ss = (((rpL c cor (x.n % 1000) ss k) ++ [(⟨c, 500, 0, 4, (rpA (x.n % 1000) ss k) + x.e % 2500, 0⟩ : Msg), ⟨c, 600, 0, 5, 7, x.v0⟩, ⟨c, 601, 0, 6, 9, x.v1 % 400⟩]) ++ [(⟨c, 700, 0, 1, 0, 0⟩ : Msg), ⟨c, 700, 9, 7, 5, 0⟩]) := by rw [rpP, ← hkm, if_pos g101]
  have hA9 := A118
  have hG9 := hA9.ge (by simp)
  exact ⟨⟨_, _, _, by first | (rw [hend]; done) | (rw [hend]; rfl), (by rw [hend]; exact hA9.sl (fun _ => rfl)), by omega, by omega⟩, u_d⟩
 refine go ?_
 refine f_1 results26 ?_
 have hend : rpP c cor x ss = ((rpL c cor (x.n % 1000) ss k) ++ [(⟨c, 500, 0, 4, (rpA (x.n % 1000) ss k) + x.e % 2500, 0⟩ : Msg), ⟨c, 600, 0, 5, 7, x.v0⟩, ⟨c, 601, 0, 6, 9, x.v1 % 400⟩]) := by rw [rpP, ← hkm, if_neg (by rw [g101]; exact Bool.false_ne_true), List.append_nil]
 have hA9 := A103
 have hG9 := hA9.ge (by simp)
 exact ⟨⟨_, _, _, by first | (rw [hend]; done) | (rw [hend]; rfl), (by rw [hend]; exact hA9.sl (fun _ => rfl)), by omega, by omega⟩, u_d⟩

end Go.Proofs.YtgoajalaomakpaaGreat
namespace Go.Proofs.YtgoajalaomakpaaGreat
open Go Go.RowKit

def stM (c a : Int) (ss : List T2) (j : Nat) : Msg := ⟨c, 10 + 2 * (j : Int), 2, 2, rpA a ss j + (nth ss j).a, 0⟩
def crM (c a : Int) (ss : List T2) (j : Nat) : Msg := ⟨c, 10 + 2 * (j : Int), 1, 4, rpA a ss j + (nth ss j).a + 3, 0⟩
def reM (c a : Int) (ss : List T2) (j : Nat) : Msg := ⟨c, 11 + 2 * (j : Int), 0, 3, rpA a ss j + (nth ss j).a + (nth ss j).b, 0⟩
def noM (c a : Int) : Msg := ⟨c, 1, 0, 1, a, 0⟩
def enM (c a : Int) (x : Cll) (ss : List T2) : Msg := ⟨c, 500, 0, 4, rpA a ss (min ss.length 8) + x.e % 2500, 0⟩
def toM (c : Int) (x : Cll) : Msg := ⟨c, 600, 0, 5, 7, x.v0⟩
def leM (c : Int) (x : Cll) : Msg := ⟨c, 601, 0, 6, 9, x.v1 % 400⟩
theorem mem_rpL {c : Int} {cor : Bool} {a : Int} {ss : List T2} {y : Msg} : ∀ {k : Nat}, y ∈ rpL c cor a ss k ↔ y = noM c a ∨ ∃ j, j < k ∧ (y = stM c a ss j ∨ (cor = true ∧ y = crM c a ss j) ∨ y = reM c a ss j)
  | 0 => by
    rw [rpL, List.mem_singleton]
    exact ⟨.inl, fun h => h.resolve_right fun ⟨j, h, _⟩ => absurd h (Nat.not_lt_zero j)⟩
  | k + 1 => by
    have ih := mem_rpL (c := c) (cor := cor) (a := a) (ss := ss) (y := y) (k := k)
    have hc : y ∈ (if cor = true then [(⟨c, 10 + 2 * (k : Int), 1, 4, rpA a ss k + (nth ss k).a + 3, 0⟩ : Msg)] else []) ↔ cor = true ∧ y = crM c a ss k := by
      split
      · rename_i q; rw [List.mem_singleton]; exact ⟨fun h => ⟨q, h⟩, fun h => h.2⟩
      · rename_i q; exact ⟨fun h => (by cases h), fun h => absurd h.1 q⟩
    rw [rpL, List.mem_append, List.mem_append, List.mem_append, hc, ih, List.mem_singleton, List.mem_singleton]
    constructor
    · rintro ((((h | ⟨j, hj, h⟩) | h) | h) | h)
      · exact .inl h
      · exact .inr ⟨j, by omega, h⟩
      · exact .inr ⟨k, by omega, .inl h⟩
      · exact .inr ⟨k, by omega, .inr (.inl h)⟩
      · exact .inr ⟨k, by omega, .inr (.inr h)⟩
    · rintro (h | ⟨j, hj, h⟩)
      · exact .inl (.inl (.inl (.inl h)))
      · rcases Nat.lt_succ_iff_lt_or_eq.1 hj with q | rfl
        · exact .inl (.inl (.inl (.inr ⟨j, q, h⟩)))
        · rcases h with h | h | h
          · exact .inl (.inl (.inr h))
          · exact .inl (.inr h)
          · exact .inr h
/-- The facts of a call but tons and level, in order. -/
def mnL (c : Int) (x : Cll) (ss : List T2) : List Msg := rpL c false (x.n % 1000) ss (min ss.length 8) ++ [enM c (x.n % 1000) x ss]
def fcP (c : Int) (x : Cll) (ss : List T2) (y : Msg) : Prop := y ∈ mnL c x ss ∨ y = toM c x ∨ y = leM c x
theorem mem_rpP {c : Int} {cor : Bool} {x : Cll} {ss : List T2} {y : Msg} : y ∈ rpP c cor x ss ↔ fcP c x ss y ∨ (cor = true ∧ ((∃ j, j < min ss.length 8 ∧ y = crM c (x.n % 1000) ss j) ∨ y = ⟨c, 700, 0, 1, 0, 0⟩ ∨ y = ⟨c, 700, 9, 7, 5, 0⟩)) := by
  have hc : y ∈ (if cor = true then [(⟨c, 700, 0, 1, 0, 0⟩ : Msg), ⟨c, 700, 9, 7, 5, 0⟩] else []) ↔ cor = true ∧ (y = ⟨c, 700, 0, 1, 0, 0⟩ ∨ y = ⟨c, 700, 9, 7, 5, 0⟩) := by
    split
    · rename_i q; simp [q]
    · rename_i q; simp [q]
  unfold rpP fcP mnL
  rw [List.mem_append, List.mem_append, hc, mem_rpL, List.mem_append, mem_rpL]
  simp only [List.mem_cons, List.not_mem_nil, or_false, Bool.false_eq_true, false_and, false_or]
  constructor
  · rintro (((h | ⟨j, hj, h | ⟨h1, h2⟩ | h⟩) | h | h | h) | ⟨h1, h2⟩)
    · exact .inl (.inl (.inl (.inl h)))
    · exact .inl (.inl (.inl (.inr ⟨j, hj, .inl h⟩)))
    · exact .inr ⟨h1, .inl ⟨j, hj, h2⟩⟩
    · exact .inl (.inl (.inl (.inr ⟨j, hj, .inr h⟩)))
    · exact .inl (.inl (.inr h))
    · exact .inl (.inr (.inl h))
    · exact .inl (.inr (.inr h))
    · exact .inr ⟨h1, .inr h2⟩
  · rintro ((((h | ⟨j, hj, h | h⟩) | h) | h | h) | ⟨h1, ⟨j, hj, h2⟩ | h2⟩)
    · exact .inl (.inl (.inl h))
    · exact .inl (.inl (.inr ⟨j, hj, .inl h⟩))
    · exact .inl (.inl (.inr ⟨j, hj, .inr (.inr h)⟩))
    · exact .inl (.inr (.inl h))
    · exact .inl (.inr (.inr (.inl h)))
    · exact .inl (.inr (.inr (.inr h)))
    · exact .inl (.inl (.inr ⟨j, hj, .inr (.inl ⟨h1, h2⟩)⟩))
    · exact .inr ⟨h1, h2⟩
/-- A fact, by its kind of message. -/
theorem fcP_cases {c : Int} {x : Cll} {ss : List T2} {y : Msg} : fcP c x ss y ↔ y = noM c (x.n % 1000) ∨ (∃ j, j < min ss.length 8 ∧ (y = stM c (x.n % 1000) ss j ∨ y = reM c (x.n % 1000) ss j)) ∨ y = enM c (x.n % 1000) x ss ∨ y = toM c x ∨ y = leM c x := by
  unfold fcP mnL
  rw [List.mem_append, mem_rpL, List.mem_singleton]
  simp only [Bool.false_eq_true, false_and, false_or]
  constructor
  · rintro (((h | h) | h) | h | h)
    · exact .inl h
    · exact .inr (.inl h)
    · exact .inr (.inr (.inl h))
    · exact .inr (.inr (.inr (.inl h)))
    · exact .inr (.inr (.inr (.inr h)))
  · rintro (h | h | h | h | h)
    · exact .inl (.inl (.inl h))
    · exact .inl (.inl (.inr h))
    · exact .inl (.inr h)
    · exact .inr (.inl h)
    · exact .inr (.inr h)
/-- What counts of a report. -/
theorem rpP_last {c : Int} {cor : Bool} {x : Cll} {ss : List T2} {y : Msg} : LastIn (rpP c cor x ss) y ↔ fcP c x ss y := by
  unfold LastIn
  constructor
  · rintro ⟨h1, h2, h3⟩
    rcases mem_rpP.1 h1 with h | ⟨hc, ⟨j, hj, rfl⟩ | rfl | rfl⟩
    · exact h
    · have := h3 (stM c (x.n % 1000) ss j) (mem_rpP.2 (.inl (fcP_cases.2 (.inr (.inl ⟨j, hj, .inl rfl⟩))))) rfl rfl
      exact absurd this (by show ¬ (2 : Int) ≤ 1; decide)
    · have := h3 ⟨c, 700, 9, 7, 5, 0⟩ (mem_rpP.2 (.inr ⟨hc, .inr (.inr rfl)⟩)) rfl rfl
      exact absurd this (by show ¬ (9 : Int) ≤ 0; decide)
    · exact absurd rfl h2
  · intro h
    refine ⟨mem_rpP.2 (.inl h), ?_, fun m hm e1 e2 => ?_⟩
    · rcases fcP_cases.1 h with rfl | ⟨j, _, rfl | rfl⟩ | rfl | rfl | rfl <;> simp [noM, stM, reM, enM, toM, leM]
    · clear e1
      rcases fcP_cases.1 h with rfl | ⟨j, _, rfl | rfl⟩ | rfl | rfl | rfl <;> rcases mem_rpP.1 hm with h2 | ⟨_, ⟨i, hi, rfl⟩ | rfl | rfl⟩ <;> (try rcases fcP_cases.1 h2 with rfl | ⟨i, hi, rfl | rfl⟩ | rfl | rfl | rfl) <;> simp only [noM, stM, reM, enM, toM, leM, crM] at * <;> omega
theorem rpP_noEd {c : Int} {cor : Bool} {x : Cll} {ss : List T2} : NoEd (rpP c cor x ss) := by
  intro a ha b hb e
  unfold edK at e
  simp only [Prod.mk.injEq] at e
  obtain ⟨_, e1, e2⟩ := e
  have key : ∀ i j : Nat, 10 + 2 * (i : Int) = 10 + 2 * (j : Int) → i = j := fun i j h => by omega
  have key2 : ∀ i j : Nat, 11 + 2 * (i : Int) = 11 + 2 * (j : Int) → i = j := fun i j h => by omega
  rcases mem_rpP.1 ha with h | ⟨_, ⟨i, hi, rfl⟩ | rfl | rfl⟩ <;> (try rcases fcP_cases.1 h with rfl | ⟨i, hi, rfl | rfl⟩ | rfl | rfl | rfl) <;> rcases mem_rpP.1 hb with h2 | ⟨_, ⟨j, hj, rfl⟩ | rfl | rfl⟩ <;> (try rcases fcP_cases.1 h2 with rfl | ⟨j, hj, rfl | rfl⟩ | rfl | rfl | rfl) <;> simp only [noM, stM, reM, enM, toM, leM, crM] at e1 e2 <;> first | rfl | (exfalso; omega) | (rw [key i j e1]) | (rw [key2 i j e1])
theorem rpP_ok {c : Int} {cor : Bool} {x : Cll} {ss : List T2} (hx : okCll x) (hs : ∀ y ∈ ss, okU2 y) (hc : 0 ≤ c ∧ c ≤ 9) {y : Msg} (h : y ∈ rpP c cor x ss) : okMsg y = true ∧ y.c = c := by
  unfold okCll at hx
  have hb : ∀ j, j < min ss.length 8 → (0 ≤ rpA (x.n % 1000) ss j ∧ rpA (x.n % 1000) ss j ≤ 999 + 510 * (j : Int)) ∧ okU2 (nth ss j) := fun j hj => ⟨rpA_bd (by omega) hs (by omega), hs _ (nth_mem (by omega))⟩
  have he := rpA_bd (a := x.n % 1000) (ss := ss) (by omega) hs (k := min ss.length 8) (by omega)
  unfold okMsg
  rw [decide_eq_true_eq]
  rcases mem_rpP.1 h with h | ⟨_, ⟨i, hi, rfl⟩ | rfl | rfl⟩
  · rcases fcP_cases.1 h with rfl | ⟨i, hi, rfl | rfl⟩ | rfl | rfl | rfl
    · simp only [noM, and_true]; omega
    · obtain ⟨b1, b2⟩ := hb i hi
      unfold okU2 at b2
      simp only [stM, and_true]; omega
    · obtain ⟨b1, b2⟩ := hb i hi
      unfold okU2 at b2
      simp only [reM, and_true]; omega
    · simp only [enM, and_true]; omega
    · simp only [toM, and_true]; omega
    · simp only [leM, and_true]; omega
  · obtain ⟨b1, b2⟩ := hb i hi
    unfold okU2 at b2
    simp only [crM, and_true]; omega
  · simp only [and_true]; omega
  · simp only [and_true]; omega
/-- The facts in order. -/
theorem rpL_pw {c a : Int} {ss : List T2} (ha : 0 ≤ a ∧ a ≤ 999) (hs : ∀ y ∈ ss, okU2 y) : ∀ {k : Nat}, k ≤ ss.length → (rpL c false a ss k).Pairwise FLt ∧ ∀ y ∈ rpL c false a ss k, y.c = c ∧ y.m ≤ rpA a ss k ∧ y.n < 10 + 2 * (k : Int) ∧ y.k ≤ 4
  | 0, _ => by
    rw [rpL]
    exact ⟨List.pairwise_singleton _ _, fun y hy => by rw [List.mem_singleton.1 hy]; simp only [rpA, true_and]; omega⟩
  | k + 1, h => by
    obtain ⟨i1, i2⟩ := rpL_pw (c := c) ha hs (k := k) (by omega)
    have hx := hs _ (nth_mem (xs := ss) (i := k) (by omega))
    unfold okU2 at hx
    have e : rpL c false a ss (k + 1) = rpL c false a ss k ++ [stM c a ss k, reM c a ss k] := by
      rw [rpL, if_neg Bool.false_ne_true, List.append_nil, List.append_assoc]; rfl
    rw [e]
    constructor
    · rw [List.pairwise_append]
      refine ⟨i1, ?_, fun y hy z hz => ?_⟩
      · refine List.pairwise_pair.2 ?_
        unfold FLt
        rw [cmpF_lt]
        simp only [stM, reM, true_and]
        omega
      · have := i2 y hy
        unfold FLt
        rw [cmpF_lt]
        rcases List.mem_cons.1 hz with rfl | hz
        · simp only [stM]; omega
        · rw [List.mem_singleton.1 hz]; simp only [reM]; omega
    · intro y hy
      simp only [rpA]
      rcases List.mem_append.1 hy with q | q
      · have := i2 y q; omega
      · rcases List.mem_cons.1 q with rfl | q
        · simp only [stM, true_and]; omega
        · rw [List.mem_singleton.1 q]; simp only [reM, true_and]; omega
theorem mnL_pw {c : Int} {x : Cll} {ss : List T2} (_hx : okCll x) (hs : ∀ y ∈ ss, okU2 y) : (mnL c x ss).Pairwise FLt ∧ ∀ y ∈ mnL c x ss, y.k ≤ 4 := by
  unfold okCll at _hx
  obtain ⟨i1, i2⟩ := rpL_pw (c := c) (a := x.n % 1000) (ss := ss) (by omega) hs (k := min ss.length 8) (by omega)
  unfold mnL
  constructor
  · rw [List.pairwise_append]
    refine ⟨i1, List.pairwise_singleton _ _, fun y hy z hz => ?_⟩
    have := i2 y hy
    rw [List.mem_singleton.1 hz]
    unfold FLt
    rw [cmpF_lt]
    simp only [enM]
    omega
  · intro y hy
    rcases List.mem_append.1 hy with q | q
    · exact (i2 y q).2.2.2
    · rw [List.mem_singleton.1 q]; simp only [enM]; omega
/-- A call opened, fact by fact. -/
def opSt (en : Int) (s : OpS) (m : Msg) : OpS := if 4 < m.k then s else ⟨m.k, opEx en s.ex m⟩
def badP (s : OpS) (m : Msg) : Prop := ¬ 4 < m.k ∧ (¬ opGo s.la m.k ∨ s.la = 4)
def okF (en : Int) : OpS → List Msg → Prop
  | _, [] => True
  | s, m :: l => ¬ badP s m ∧ okF en (opSt en s m) l
theorem opS_fold {en : Int} {fr : List Fre} {l : List Msg} : ∀ {k : Nat}, k ≤ l.length → opS en fr l k = (l.take k).foldl (opSt en) ⟨0, fr⟩
  | 0, _ => rfl
  | k + 1, h => by
    rw [opS, opS_fold (k := k) (by omega), take_nth (by omega), List.foldl_append]
    rfl
theorem okF_app {en : Int} : ∀ {l1 l2 : List Msg} {s : OpS}, okF en s (l1 ++ l2) ↔ okF en s l1 ∧ okF en (l1.foldl (opSt en) s) l2
  | [], _, _ => ⟨fun h => ⟨trivial, h⟩, fun h => h.2⟩
  | m :: l1, l2, s => by
    show ¬ badP s m ∧ okF en (opSt en s m) (l1 ++ l2) ↔ (¬ badP s m ∧ okF en (opSt en s m) l1) ∧ _
    rw [okF_app (l1 := l1), and_assoc]
    rfl
theorem okF_nth {en : Int} {fr : List Fre} {l : List Msg} (h : okF en ⟨0, fr⟩ l) {k : Nat} (hk : k < l.length) : ¬ opBad en fr l k := by
  have e : l = l.take k ++ (nth l k :: l.drop (k + 1)) := by rw [← drop_nth hk, List.take_append_drop]
  rw [e, okF_app, ← opS_fold (by omega)] at h
  exact h.2.1
theorem fold_skip {en : Int} : ∀ {l : List Msg} {s : OpS}, l.foldl (opSt en) s = (l.filter fun m => decide (m.k ≤ 4)).foldl (opSt en) s ∧ (okF en s (l.filter fun m => decide (m.k ≤ 4)) → okF en s l)
  | [], _ => ⟨rfl, id⟩
  | m :: l, s => by
    by_cases q : m.k ≤ 4
    · rw [List.filter_cons, if_pos (decide_eq_true q)]
      exact ⟨by rw [List.foldl_cons, List.foldl_cons]; exact fold_skip.1, fun h => ⟨h.1, fold_skip.2 h.2⟩⟩
    · rw [List.filter_cons, if_neg (by simpa using q)]
      have e : opSt en s m = s := if_pos (by omega)
      constructor
      · rw [List.foldl_cons, e]; exact fold_skip.1
      · intro h
        exact ⟨fun b => b.1 (by omega), by rw [e]; exact fold_skip.2 h⟩
def stF (a : Int) (ss : List T2) (j : Nat) : Fre := ⟨rpA a ss j + (nth ss j).a, rpA a ss j + (nth ss j).a + (nth ss j).b⟩
def stL (a : Int) (ss : List T2) : Nat → List Fre
  | 0 => []
  | k + 1 => stL a ss k ++ [stF a ss k]
theorem rpL_run {en c a : Int} {fr : List Fre} {ss : List T2} : ∀ k, okF en ⟨0, fr⟩ (rpL c false a ss k) ∧ ((rpL c false a ss k).foldl (opSt en) ⟨0, fr⟩).ex = fr ++ stL a ss k ∧ (((rpL c false a ss k).foldl (opSt en) ⟨0, fr⟩).la = 1 ∨ ((rpL c false a ss k).foldl (opSt en) ⟨0, fr⟩).la = 3)
  | 0 => by
    rw [rpL]
    refine ⟨⟨fun h => ?_, trivial⟩, ?_, .inl ?_⟩
    · rcases h.2 with q | q
      · exact q (.inl ⟨rfl, rfl⟩)
      · exact absurd q (by show ¬ (0 : Int) = 4; decide)
    · rw [List.foldl_cons, List.foldl_nil]
      simp [opSt, opEx, stL]
    · rw [List.foldl_cons, List.foldl_nil]
      simp [opSt]
  | k + 1 => by
    obtain ⟨i1, i2, i3⟩ := rpL_run (en := en) (c := c) (a := a) (fr := fr) (ss := ss) k
    have e : rpL c false a ss (k + 1) = rpL c false a ss k ++ [stM c a ss k, reM c a ss k] := by
      rw [rpL, if_neg Bool.false_ne_true, List.append_nil, List.append_assoc]; rfl
    rw [e, okF_app, List.foldl_append]
    generalize (rpL c false a ss k).foldl (opSt en) ⟨0, fr⟩ = s at *
    have s1 : opSt en s (stM c a ss k) = ⟨2, s.ex ++ [⟨rpA a ss k + (nth ss k).a, max en (rpA a ss k + (nth ss k).a)⟩]⟩ := by
      simp [opSt, opEx, stM]
    have s2 : opSt en (opSt en s (stM c a ss k)) (reM c a ss k) = ⟨3, s.ex ++ [stF a ss k]⟩ := by
      rw [s1]
      have e2 : nth (s.ex ++ [(⟨rpA a ss k + (nth ss k).a, max en (rpA a ss k + (nth ss k).a)⟩ : Fre)]) s.ex.length = ⟨rpA a ss k + (nth ss k).a, max en (rpA a ss k + (nth ss k).a)⟩ := nth_app2
      simp [opSt, opEx, reM, e2, stF]
    refine ⟨⟨i1, fun h => ?_, fun h => ?_, trivial⟩, ?_, .inr ?_⟩
    · rcases h.2 with q | q
      · exact q (.inr (.inl ⟨rfl, i3⟩))
      · omega
    · rw [s1] at h
      rcases h.2 with q | q
      · exact q (.inr (.inr (.inl ⟨rfl, rfl⟩)))
      · exact absurd q (by show ¬ (2 : Int) = 4; decide)
    · show (opSt en (opSt en s (stM c a ss k)) (reM c a ss k)).ex = _
      rw [s2, stL, i2]
      simp
    · show (opSt en (opSt en s (stM c a ss k)) (reM c a ss k)).la = _
      rw [s2]
theorem mnL_run {en c : Int} {x : Cll} {fr : List Fre} {ss : List T2} : okF en ⟨0, fr⟩ (mnL c x ss) ∧ ((mnL c x ss).foldl (opSt en) ⟨0, fr⟩).ex = fr ++ stL (x.n % 1000) ss (min ss.length 8) := by
  obtain ⟨i1, i2, i3⟩ := rpL_run (en := en) (c := c) (a := x.n % 1000) (fr := fr) (ss := ss) (min ss.length 8)
  unfold mnL
  rw [okF_app, List.foldl_append]
  generalize (rpL c false (x.n % 1000) ss (min ss.length 8)).foldl (opSt en) ⟨0, fr⟩ = s at *
  refine ⟨⟨i1, fun h => ?_, trivial⟩, ?_⟩
  · rcases h.2 with q | q
    · exact q (.inr (.inr (.inr ⟨rfl, by omega⟩)))
    · omega
  · show (opSt en s (enM c (x.n % 1000) x ss)).ex = _
    rw [← i2]
    simp [opSt, opEx, enM]
/-- What happened, by kinds. -/
theorem onS_at {l : List Msg} : ∀ {k : Nat}, k ≤ l.length → ∀ {d : Int}, (∀ {o : Msg}, gtG (onS l k) d = some o → o ∈ l.take k ∧ o.k = d) ∧ (∀ y ∈ l.take k, y.k = d → ¬ (d = 2 ∨ d = 3) → ∃ o, gtG (onS l k) d = some o)
  | 0, _, d => ⟨fun h => by simp [onS, gtG_eq, gtR] at h, fun y hy => by simp at hy⟩
  | k + 1, h, d => by
    obtain ⟨i1, i2⟩ := onS_at (l := l) (k := k) (by omega) (d := d)
    rw [take_nth (by omega)]
    by_cases q : (nth l k).k = 2 ∨ (nth l k).k = 3
    · rw [onS, if_pos q]
      refine ⟨fun h => ⟨List.mem_append_left _ (i1 h).1, (i1 h).2⟩, fun y hy e hn => ?_⟩
      rcases List.mem_append.1 hy with r | r
      · exact i2 y r e hn
      · rw [List.mem_singleton.1 r] at e
        exact absurd (e ▸ q) hn
    · rw [onS, if_neg q, gtG_eq, upG_eq, gtR_upR]
      rw [gtG_eq] at i1 i2
      refine ⟨fun h => ?_, fun y hy e hn => ?_⟩
      · split at h
        · rename_i r
          simp only [Option.some.injEq] at h
          rw [← h]
          exact ⟨List.mem_append_right _ (List.mem_singleton.2 rfl), r.symm⟩
        · exact ⟨List.mem_append_left _ (i1 h).1, (i1 h).2⟩
      · split
        · exact ⟨_, rfl⟩
        · rename_i r
          rcases List.mem_append.1 hy with r2 | r2
          · exact i2 y r2 e hn
          · rw [List.mem_singleton.1 r2] at e
            exact absurd e.symm r
/-- A report's facts, in order. -/
structure RpO (c : Int) (x : Cll) (ss : List T2) (out : List Msg) : Prop where
  pw : out.Pairwise FLt
  mem : ∀ y, y ∈ out ↔ fcP c x ss y
theorem RpO.main {c : Int} {x : Cll} {ss : List T2} {out : List Msg} (h : RpO c x ss out) (hx : okCll x) (hs : ∀ y ∈ ss, okU2 y) : (out.filter fun m => decide (m.k ≤ 4)) = mnL c x ss := by
  obtain ⟨m1, m2⟩ := mnL_pw (c := c) hx hs
  refine sorted_ext FLt.asym (h.pw.sublist List.filter_sublist) m1 fun y => ?_
  rw [List.mem_filter, h.mem, decide_eq_true_eq]
  constructor
  · rintro ⟨q | rfl | rfl, h2⟩
    · exact q
    · exact absurd h2 (by show ¬ (5 : Int) ≤ 4; decide)
    · exact absurd h2 (by show ¬ (6 : Int) ≤ 4; decide)
  · exact fun q => ⟨.inl q, m2 y q⟩
theorem fcP_one {c : Int} {x : Cll} {ss : List T2} {y z : Msg} (hy : fcP c x ss y) (hz : fcP c x ss z) (e : y.k = z.k) (hn : ¬ (y.k = 2 ∨ y.k = 3)) : y = z := by
  rcases fcP_cases.1 hy with rfl | ⟨i, hi, rfl | rfl⟩ | rfl | rfl | rfl <;> rcases fcP_cases.1 hz with rfl | ⟨j, hj, rfl | rfl⟩ | rfl | rfl | rfl <;> first | rfl | exact absurd (.inl rfl) hn | exact absurd (.inr rfl) hn | (simp [noM, stM, reM, enM, toM, leM] at e; done)
theorem RpO.get {c : Int} {x : Cll} {ss : List T2} {out : List Msg} (h : RpO c x ss out) {y : Msg} (hy : fcP c x ss y) (hn : ¬ (y.k = 2 ∨ y.k = 3)) : gtG (onS out out.length) y.k = some y := by
  obtain ⟨o1, o2⟩ := onS_at (l := out) (k := out.length) (Nat.le_refl _) (d := y.k)
  rw [List.take_length] at o1 o2
  obtain ⟨o, ho⟩ := o2 y ((h.mem y).2 hy) rfl hn
  obtain ⟨q1, q2⟩ := o1 ho
  rw [ho, fcP_one hy ((h.mem o).1 q1) q2.symm hn]
theorem RpO.noErr {c : Int} {x : Cll} {ss : List T2} {out : List Msg} (h : RpO c x ss out) {k : Nat} (hk : k < out.length) : ¬ onErr out k := fun ⟨hn, o, ho⟩ => by
  obtain ⟨q1, q2⟩ := (onS_at (l := out) (k := k) (by omega) (d := (nth out k).k)).1 ho
  have e := fcP_one ((h.mem _).1 (nth_mem hk)) ((h.mem o).1 (List.mem_of_mem_take q1)) q2.symm hn
  obtain ⟨i, hi, ei⟩ := List.getElem_of_mem q1
  rw [List.length_take] at hi
  rw [List.getElem_take] at ei
  have := List.pairwise_iff_getElem.1 h.pw i k (by omega) hk (by omega)
  rw [ei, ← nth_eq hk, e] at this
  exact FLt.asym _ _ this this
theorem RpO.open {c : Int} {x : Cll} {ss : List T2} {out : List Msg} (h : RpO c x ss out) (hx : okCll x) (hs : ∀ y ∈ ss, okU2 y) (fr : List Fre) : OpOk fr out (fr ++ stL (x.n % 1000) ss (min ss.length 8)) ∧ (opS (enM c (x.n % 1000) x ss).m fr out out.length).ex = fr ++ stL (x.n % 1000) ss (min ss.length 8) := by
  have hm := h.main hx hs
  obtain ⟨r1, r2⟩ := mnL_run (en := (enM c (x.n % 1000) x ss).m) (c := c) (x := x) (fr := fr) (ss := ss)
  have e1 := fold_skip (en := (enM c (x.n % 1000) x ss).m) (l := out) (s := ⟨0, fr⟩)
  rw [hm] at e1
  have e2 : (opS (enM c (x.n % 1000) x ss).m fr out out.length).ex = fr ++ stL (x.n % 1000) ss (min ss.length 8) := by
    rw [opS_fold (Nat.le_refl _), List.take_length, e1.1, r2]
  have e3 := e1.2 r1
  refine ⟨⟨fun k hk => h.noErr hk, noM c (x.n % 1000), enM c (x.n % 1000) x ss, ?_, ?_, fun k hk => okF_nth e3 hk, e2.symm⟩, e2⟩
  · exact h.get (fcP_cases.2 (.inl rfl)) (by show ¬ ((1 : Int) = 2 ∨ (1 : Int) = 3); decide)
  · exact h.get (fcP_cases.2 (.inr (.inr (.inl rfl)))) (by show ¬ ((4 : Int) = 2 ∨ (4 : Int) = 3); decide)
/-- A call's laytime. -/
def enT (x : Cll) (ss : List T2) : Int := rpA (x.n % 1000) ss (min ss.length 8) + x.e % 2500
def ltP (x : Cll) (ss : List T2) (fr : List Fre) : Lc := lcM (x.t2 % 2000) (enT x ss) (x.n % 1000 + x.t3 % 300) (exc (fr ++ stL (x.n % 1000) ss (min ss.length 8)))
theorem tmC_ok {x : Cll} (hx : okCll x) : chkCh (tmC x) (tmW x) = 0 := by
  unfold okCll at hx
  unfold chkCh
  rw [if_pos]
  have hw : lowK (tmW x) ((tmW x).length - 1) = false := by
    have e : (tmW x).length - 1 = 0 + 1 := rfl
    have a1 : okLow ⟨100, x.t5 % 60⟩ = true := by unfold okLow; rw [decide_eq_true_eq]; dsimp only; omega
    have a2 : okLow ⟨100 + x.t3 % 200 + 1, 15⟩ = true := by unfold okLow; rw [decide_eq_true_eq]; dsimp only; omega
    rw [e, lowK, lowK, Bool.or_eq_false_iff]
    refine ⟨?_, ?_⟩
    · rw [List.any_eq_false]
      intro y hy
      rcases List.mem_cons.1 hy with rfl | hy
      · simp [a1]
      · rw [List.mem_singleton.1 hy]; simp [a2]
    · rw [decide_eq_false_iff_not]
      show ¬ 100 + x.t3 % 200 + 1 ≤ 100
      omega
  unfold okCh
  rw [decide_eq_true_eq]
  refine ⟨hw, by show 2 ≤ 10; decide, ?_⟩
  simp only [tmC]
  omega
end Go.Proofs.YtgoajalaomakpaaGreat
namespace Go.Proofs.YtgoajalaomakpaaGreat
open Go Go.RowKit

theorem mnK_rng {L b : Int} {p : Int → Bool} (hL : 0 ≤ L) : ∀ i : Nat, (0 ≤ (mnK L b p i).u ∧ (mnK L b p i).u ≤ L) ∧ 0 ≤ (mnK L b p i).o ∧ (0 < (mnK L b p i).o → (mnK L b p i).u = L) ∧ (mnK L b p i).u + (mnK L b p i).o ≤ (i : Int)
  | 0 => by simp only [mnK]; omega
  | i + 1 => by
    obtain ⟨h1, h2, h3, h4⟩ := mnK_rng (b := b) (p := p) hL i
    unfold mnK
    split
    · dsimp only; omega
    · split
      · omega
      · dsimp only; omega
/-- What a laytime's count keeps. -/
structure LcOk (L en b : Int) (n : Lc) : Prop where
  bg : n.b = b
  us : 0 ≤ n.u ∧ n.u ≤ L
  ov : 0 ≤ n.o ∧ (0 < n.o → n.u = L ∧ n.s = 0)
  sv : n.o = 0 → n.u + n.s = L
  al : n.u + n.o ≤ max 0 (en - b)
theorem lcM_ok {L en b : Int} {p : Int → Bool} (hL : 0 ≤ L) : LcOk L en b (lcM L en b p) := by
  obtain ⟨h1, h2, h3, h4⟩ := mnK_rng (b := b) (p := p) hL (en - b).toNat
  unfold lcM
  refine ⟨rfl, h1, ⟨h2, fun q => ⟨h3 q, ?_⟩⟩, fun q => ?_, ?_⟩
  · dsimp only at q ⊢; rw [if_neg (by omega)]
  · dsimp only at q ⊢; rw [if_pos q]; omega
  · dsimp only; omega
/-- Calls compared. -/
theorem ltP_ok {x : Cll} {ss : List T2} {fr : List Fre} (_hx : okCll x) : LcOk (x.t2 % 2000) (enT x ss) (x.n % 1000 + x.t3 % 300) (ltP x ss fr) := by
  unfold okCll at _hx
  exact lcM_ok (by omega)
theorem spL_ok {xs : List T2} (h : ∀ x ∈ xs, okX2 x) : (spL xs).length ≤ 10 ∧ ∀ f ∈ spL xs, 0 ≤ f.f ∧ f.f ≤ f.t ∧ f.t ≤ 4800 := by
  unfold spL
  refine ⟨by rw [List.length_map, List.length_take]; omega, fun f hf => ?_⟩
  obtain ⟨x, hx, rfl⟩ := List.mem_map.1 hf
  have := h x (List.mem_of_mem_take hx)
  unfold okX2 at this
  unfold spF
  dsimp only
  omega
theorem chkFr_of {fs : List Fre} (h1 : fs.length ≤ 30) (h2 : ∀ f ∈ fs, 0 ≤ f.f ∧ f.f ≤ f.t ∧ f.t ≤ 100000) : chkFr fs = 0 := by
  unfold chkFr
  rw [if_neg (by omega), if_neg]
  intro q
  obtain ⟨f, hf, e⟩ := List.any_eq_true.1 q
  have := h2 f hf
  rw [Bool.not_eq_true', show okFre f = true from by unfold okFre; rw [decide_eq_true_eq]; omega] at e
  cases e
theorem spL_chk {xs : List T2} (h : ∀ x ∈ xs, okX2 x) : chkFr (spL xs) = 0 := chkFr_of (by have := (spL_ok h).1; omega) fun f hf => by have := (spL_ok h).2 f hf; omega
end Go.Proofs.YtgoajalaomakpaaGreat
