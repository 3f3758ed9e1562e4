/-
  Part 6 of the proof: contracts and plain laws. Conditions: none.
-/
import Derived.Shelf.SlSortCmp.WholeK
import Derived.Shelf.SlSortCmp.NoneTotal
import Derived.Ground.SlsfProg
import Derived.Test.YtgoajalaomakpaaGreatProg
import Derived.Test.YtgoajalaomakpaaGreatIK5
namespace Go.Proofs.YtgoajalaomakpaaGreat
open Go Go.RowKit Go.Proofs.Tryz
structure Clr where
  p : Int
  t : Int
  g : Int
instance : Inhabited Clr := ⟨⟨default, default, default⟩⟩
def encClr (x : Clr) : List Value := [.int .i64 x.p, .int .i64 x.t, .int .i64 x.g]

/-- An order trades at a price. -/
def trd (sg : Int) (x : Bid) (p : Int) : Bool := decide (sg * x.r ≤ sg * p)
def tonK (sg p : Int) (l : List Bid) : Nat → Int
  | 0 => 0
  | k + 1 => if trd sg (nth l k) p = true then tonK sg p l k + (nth l k).n else tonK sg p l k
theorem okBid_ok {x : Bid} (h : okBid x = true) : (0 ≤ x.p ∧ x.p ≤ 99) ∧ (1 ≤ x.n ∧ x.n ≤ 1000000) ∧ (0 ≤ x.r ∧ x.r ≤ 1000000) ∧ (0 ≤ x.m ∧ x.m ≤ 100000) := by simpa [okBid] using h
theorem tonK_bd {sg p : Int} {l : List Bid} (hok : ∀ x ∈ l, okBid x = true) : ∀ {k : Nat}, k ≤ l.length → 0 ≤ tonK sg p l k ∧ tonK sg p l k ≤ 1000000 * (k : Int)
  | 0, _ => by simp [tonK]
  | k + 1, h => by
    have h1 := tonK_bd (sg := sg) (p := p) hok (k := k) (by omega)
    have h2 := okBid_ok (hok _ (nth_mem (xs := l) (i := k) (by omega)))
    unfold tonK
    split <;> omega
theorem twice_yes {l : List Bid} {k : Nat} (hk : k < l.length) (h : (nth l k).p ∈ (l.take k).map Bid.p) : ¬ (l.map Bid.p).Nodup := by
  intro hn
  have e : l.map Bid.p = (l.take k).map Bid.p ++ (nth l k).p :: (l.drop (k + 1)).map Bid.p := by
    rw [← List.map_cons (f := Bid.p), ← drop_nth hk, ← List.map_append, List.take_append_drop]
  rw [e, List.nodup_append] at hn
  exact hn.2.2 _ h _ (by simp) rfl
theorem twice_no {l : List Bid} {k : Nat} (hk : k < l.length) (hn : ((l.take k).map Bid.p).Nodup) (h : (nth l k).p ∉ (l.take k).map Bid.p) : ((l.take (k + 1)).map Bid.p).Nodup := by
  rw [take_nth hk, List.map_append, List.nodup_append]
  refine ⟨hn, by simp, fun a ha b hb e => ?_⟩
  simp at hb
  subst hb
  exact h (e ▸ ha)
/-- Clearings compared: the better one is less. -/
def cmpC (c d : Clr) : Int := or3 (cmpI3 d.t c.t) (cmpI3 c.g d.g) (cmpI3 c.p d.p)
def minK (l : List Clr) : Nat → Clr
  | 0 => nth l 0
  | k + 1 => if cmpC (nth l (k + 1)) (minK l k) < 0 then nth l (k + 1) else minK l k
/-- Orders of one side compared. -/
def cmpB (sg : Int) (a b : Bid) : Int := or3 (sg * cmpI3 a.r b.r) (cmpI3 a.m b.m) (cmpI3 a.p b.p)
theorem cmpI3_rng (a b : Int) : -1 ≤ cmpI3 a b ∧ cmpI3 a b ≤ 1 := by unfold cmpI3; split <;> (try split) <;> omega
theorem own94 : Own Tryz.prog 94 := ⟨Tryz.f94, func94, by kernel_rfl, by kernel_rfl⟩
theorem own96 : Own Tryz.prog 96 := ⟨Tryz.f96, func96, by kernel_rfl, by kernel_rfl⟩

theorem trades_c (sg : Int) (ao : Option Addr) (nO cO : Nat) (x : Bid) (p : Int) (w0 : World) (hsg : sg = 1 ∨ sg = -1) (hx : 0 ≤ x.r ∧ x.r ≤ 1000000) (hp : 0 ≤ p ∧ p ≤ 1000000) :
    CallsV Tryz.prog 89 [.agg #[.slice ao nO cO, .int .i64 sg], .agg #[.int .i64 x.p, .int .i64 x.n, .int .i64 x.r, .int .i64 x.m], .int .i64 p] w0 (fun v w' => v = .bool (trd sg x p) ∧ Ext w0 w') := by
 refine f_n func89 ?_
 refine go ?_
 refine x_b fun bk2 w3 ebk2 sbk2 B4 u5 => ?_
 refine x_b fun bk7 w8 ebk7 sbk7 B9 u10 => ?_
 refine go ?_
 refine t_ari rfl rfl rfl rfl rfl (by rcases hsg with h | h <;> rw [h] <;> omega) ?_
 refine go ?_
 refine t_ari rfl rfl rfl rfl rfl (by rcases hsg with h | h <;> rw [h] <;> omega) ?_
 refine go ?_
 refine f_1 results89 ?_
 exact ⟨rfl, u_d⟩

theorem tons_c (sg : Int) (l : List Bid) (al : Option Addr) (bl ol cl : Nat) (p : Int) (w0 : World) (hsg : sg = 1 ∨ sg = -1) (hl : Sl encBid 4 w0 al bl ol l) (hll : l.length ≤ 1000000) (hok : ∀ x ∈ l, okBid x = true) (hp : 0 ≤ p ∧ p ≤ 1000000) :
    CallsV Tryz.prog 45 [.agg #[.slice al l.length cl, .int .i64 sg], .int .i64 p] w0 (fun v w' => v = .int .i64 (tonK sg p l l.length) ∧ Ext w0 w') := by
 refine f_n func45 ?_
 refine go ?_
 refine x_b fun bk2 w3 ebk2 sbk2 B4 u5 => ?_
 refine go ?_
 refine x_l1 (fun _ => False) [1, 2, 8, 9] (fun (k : Nat) => [(4, .int .i64 (tonK sg p l k)), (10, .int .i64 (k : Int))]) (fun k w => (k ≤ l.length)) (fun k => l.length - k) 0 (Nat.zero_le _) ?_
 rintro k w10 hk u11 zu11 K9 hK9
 refine go ?_
 refine q_p (fun g11 => ?_) fun g11 => ?_
 ·
  refine go ?_
  refine g_i k (hl.keep (((Upd.refl (fun _ => False) w0).nx u5).nx u11) (fun _ h => h)) (fun _ => ?_)
  refine go ?_
  refine x_n fun bk18 w19 ebk18 sbk18 B20 u21 => ?_
  refine x_s fun w23 sw23 B25 u24 => ?_
  refine go ?_
  refine x_c func89 rfl rfl (trades_c sg al l.length cl (nth l k) p _ hsg (okBid_ok (hok _ (nth_mem (by omega)))).2.2.1 hp) ?_
  rintro _ w29 ⟨rfl, u30⟩ zu30
  refine go ?_
  refine q_b (fun g17 => ?_) fun g17 => ?_
  ·
   refine go ?_
   have hb := tonK_bd (sg := sg) (p := p) hok (k := k) (by omega)
   have hb2 := (okBid_ok (hok _ (nth_mem (xs := l) (i := k) (by omega)))).2.1
   refine go ?_
   exact hK9 (k + 1) (by omega) (hs := by exact ⟨(congrArg (fun z => some (Value.int .i64 z)) (by simp [tonK, g17])), rfl, rfl, rfl, rfl, rfl, trivial⟩)
  refine go ?_
  exact hK9 (k + 1) (by omega) (hs := by exact ⟨(congrArg (fun z => some (Value.int .i64 z)) (by simp [tonK, g17])), rfl, rfl, rfl, rfl, rfl, trivial⟩)
 refine go ?_
 refine f_1 results45 ?_
 obtain rfl : k = l.length := by omega
 exact ⟨rfl, u_d⟩

theorem twice_c (sg : Int) (l : List Bid) (al : Option Addr) (bl ol cl : Nat) (w0 : World) (hl : Sl encBid 4 w0 al bl ol l) (hll : l.length ≤ 1000000) :
    CallsV Tryz.prog 44 [.agg #[.slice al l.length cl, .int .i64 sg]] w0 (fun v w' => v = .bool (!decide (l.map Bid.p).Nodup) ∧ Ext w0 w') := by
 refine f_n func44 ?_
 refine go ?_
 refine x_b fun bk2 w3 ebk2 sbk2 B4 u5 => ?_
 refine go ?_
 refine t_makemap rfl rfl (fun bk8 w9 ebk8 sbk8 M10 u11 => ?_)
 have zu11 := u11.size
 refine go ?_
 refine x_l1 (fun i => i = bk8) [3, 8, 9] (fun (k : Nat) => [(10, .int .i64 (k : Int))]) (fun k w => (k ≤ l.length) ∧ (SetI ((l.take k).map Bid.p) w bk8) ∧ (((l.take k).map Bid.p).Nodup)) (fun k => l.length - k) 0 ⟨Nat.zero_le _, (by simpa using (SetI.ofMemo M10)), (by simp)⟩ ?_
 rintro k w16 ⟨hk, hset, hnd⟩ u17 zu17 K15 hK15
 have hbml := hset.lt
 refine go ?_
 refine q_p (fun g11 => ?_) fun g11 => ?_
 ·
  refine go ?_
  refine g_i k (hl.keep ((((Upd.refl (fun _ => False) w0).nx u5).nx u11).next u17 (fun i hi h => by omega)) (fun _ h => h)) (fun _ => ?_)
  refine go ?_
  refine x_n fun bk24 w25 ebk24 sbk24 B26 u27 => ?_
  refine x_s fun w29 sw29 B31 u30 => ?_
  refine go ?_
  have D35 := ((hset.keep u27 (fun h => h)).keep u30 (show ¬ (bk8 = bk24) by omega))
  refine t_lookupI (ks := ((l.take k).map Bid.p)) underlying3 underlying173 zeroValue4 rfl rfl rfl rfl D35 ?_
  refine go ?_
  refine q_p (fun g17 => ?_) fun g17 => ?_
  ·
   refine go ?_
   refine f_1 results44 ?_
   exact ⟨by rw [decide_eq_false (twice_yes (by omega) g17)]; rfl, u_d⟩
  refine go ?_
  refine t_mapnewI (ks := ((l.take k).map Bid.p)) underlying3 underlying173 rfl rfl rfl rfl D35 g17 (fun w37 ew37 M38 u39 => ?_)
  refine go ?_
  exact hK15 (k + 1) ⟨(by omega), (by rw [take_nth (by omega), List.map_append]; exact M38), (twice_no (by omega) hnd g17)⟩
 refine go ?_
 refine f_1 results44 ?_
 rw [List.take_of_length_le (by omega)] at hnd
 exact ⟨by rw [decide_eq_true hnd]; rfl, u_d⟩

theorem compare_c (c d : Clr) (w0 : World) :
    CallsV Tryz.prog 47 [.agg #[.int .i64 c.p, .int .i64 c.t, .int .i64 c.g], .agg #[.int .i64 d.p, .int .i64 d.t, .int .i64 d.g]] w0 (fun v w' => (v = .int .i64 (cmpC c d) ∧ Gr w0 w') ∧ Ext w0 w') := by
 refine f_n func47 ?_
 refine go ?_
 refine t_boxG (cs := [.int .i64 c.p, .int .i64 c.t, .int .i64 c.g]) rfl rfl rfl rfl (fun bk2 w3 ebk2 sbk2 B4 u5 Gu5 => ?_)
 refine t_boxG (cs := [.int .i64 d.p, .int .i64 d.t, .int .i64 d.g]) rfl rfl rfl rfl (fun bk7 w8 ebk7 sbk7 B9 u10 Gu10 => ?_)
 refine go ?_
 refine c_drawnMG follows (fun _ => False) (OTl [0, 2, 4, 6, 10, 12, 14, 16, 20, 22, 24, 26, 9, 19, 29, 31, 33, 34]) (by kernel_rfl) fun w13 u14 Gu14 => ?_
 have zu14 := u14.size
 refine go ?_
 refine t_call own91 rfl rfl rfl rfl (cmpI_c d.t c.t _) (fun v16 w17 r19 => ?_)
 obtain ⟨⟨rfl, Gu18⟩, u18⟩ := r19
 have zu18 := u18.size
 refine go ?_
 refine t_call own91 rfl rfl rfl rfl (cmpI_c c.g d.g _) (fun v21 w22 r24 => ?_)
 obtain ⟨⟨rfl, Gu23⟩, u23⟩ := r24
 have zu23 := u23.size
 refine go ?_
 refine t_call own91 rfl rfl rfl rfl (cmpI_c c.p d.p _) (fun v26 w27 r29 => ?_)
 obtain ⟨⟨rfl, Gu28⟩, u28⟩ := r29
 have zu28 := u28.size
 refine go ?_
 refine t_bsliceG (ps := [(0, .int .i64 (cmpI3 d.t c.t)), (1, .int .i64 (cmpI3 c.g d.g)), (2, .int .i64 (cmpI3 c.p d.p))]) (cs := [.int .i64 (cmpI3 d.t c.t), .int .i64 (cmpI3 c.g d.g), .int .i64 (cmpI3 c.p d.p)]) (e := 3) rfl rfl ⟨rfl, rfl⟩ (fun w => by kernel_rfl) (fun bk31 w32 ebk31 sbk31 B33 u34 Gu34 => ?_)
 refine go ?_
 refine t_call own90 rfl rfl rfl rfl (or3_c (cmpI3 d.t c.t) (cmpI3 c.g d.g) (cmpI3 c.p d.p) bk31 _ B33) (fun v36 w37 r39 => ?_)
 obtain ⟨⟨rfl, Gu38⟩, u38⟩ := r39
 have zu38 := u38.size
 refine go ?_
 refine f_1 results47 ?_
 exact ⟨⟨rfl, (((((((((Gr.refl _).trans Gu5).trans Gu10).trans Gu14).trans Gu18).trans Gu23).trans Gu28).trans Gu34).trans Gu38)⟩, u_d⟩

theorem minFunc_c (l : List Clr) (al : Option Addr) (bl ol cl : Nat) (w0 : World) (hl : Sl encClr 3 w0 al bl ol l) (hll : l.length ≤ 1000000) (hp : 1 ≤ l.length) :
    CallsV Tryz.prog 46 [.slice al l.length cl, .func (.func 47) #[] #[]] w0 (fun v w' => v = .agg (encClr (minK l (l.length - 1))).toArray ∧ Ext w0 w') := by
 refine f_n func46 ?_
 refine go ?_
 refine x_n fun bk2 w3 ebk2 sbk2 B4 u5 => ?_
 have E6 := Sc.mk ((Upd.refl (fun _ => False) w0).nx u5)
 refine go ?_
 refine q_p (fun g9 => ?_) fun g9 => ?_
 ·
  exfalso; omega
 refine go ?_
 refine g_i 0 (hl.keep E6.u (fun _ h => h)) (fun _ => ?_)
 refine go ?_
 refine x_n fun bk11 w12 ebk11 sbk11 B13 u14 => ?_
 refine x_s fun w16 sw16 B18 u17 => ?_
 refine go ?_
 refine x_l1 (fun i => i = bk11) [0, 1, 4, 5] (fun (k : Nat) => [(6, .int .i64 ((k + 1 : Nat) : Int))]) (fun k w => Blk w bk11 122 [.int .i64 ((minK l k).p), .int .i64 ((minK l k).t), .int .i64 ((minK l k).g)] ∧ (k + 1 ≤ l.length)) (fun k => l.length - k) 0 ⟨B18, (by omega)⟩ ?_
 rintro k w23 ⟨I25, hk⟩ u24 zu24 K22 hK22
 refine go ?_
 refine q_p (fun g17 => ?_) fun g17 => ?_
 ·
  refine go ?_
  refine c_drawnM follows (fun _ => False) (OTl [0, 2, 4, 6, 8, 10, 13, 14]) (by kernel_rfl) fun w31 u32 => ?_
  have zu32 := u32.size
  have E33 := Sc.mk ((((E6.u.nx u14).next u17 (fun i hi h => by omega)).next u24 (fun i hi h => by omega)).nx u32)
  refine go ?_
  refine y_i (k + 1 : Nat) (hl.keep E33.u (fun _ h => h)) (fun _ => ?_)
  refine go ?_
  refine x_c func47 rfl rfl (compare_c (nth l (k + 1 : Nat)) (minK l k) _) ?_
  rintro _ w36 ⟨⟨rfl, _⟩, u37⟩ zu37
  refine go ?_
  refine q_p (fun g27 => ?_) fun g27 => ?_
  ·
   refine go ?_
   refine g_i (k + 1 : Nat) (hl.keep (E33.u.nx u37) (fun _ h => h)) (fun _ => ?_)
   refine go ?_
   refine x_s fun w41 sw41 B43 u42 => ?_
   refine go ?_
   exact hK22 (k + 1) ⟨(by first | (simp only [minK, if_pos g27]; exact B43) | (simp only [minK, if_neg g27]; exact B43)), (by omega)⟩
  refine go ?_
  have B45 := ((I25.kx u32).kx u37)
  exact hK22 (k + 1) ⟨(by first | (simp only [minK]; exact B45) | (simp only [minK, if_neg g27]; exact B45)), (by omega)⟩
 refine go ?_
 refine x_s fun w47 sw47 B49 u48 => ?_
 refine go ?_
 refine f_ret1 (v := .agg #[.int .i64 ((minK l k).p), .int .i64 ((minK l k).t), .int .i64 ((minK l k).g)]) results46 ⟨_, _, rfl, run_loadVarN (vs := [.int .i64 ((minK l k).p), .int .i64 ((minK l k).t), .int .i64 ((minK l k).g)]) isAgg122 sizeOf122 rfl (B49.at.sub 0 3)⟩ ?_
 obtain rfl : k = l.length - 1 := by omega
 exact ⟨rfl, u_d⟩

theorem queue1_c (sg : Int) (ao : Option Addr) (nO cO : Nat) (p : Int) (x : Bid) (bs bp : Nat) (w0 : World) (hsg : sg = 1 ∨ sg = -1) (hx : 0 ≤ x.r ∧ x.r ≤ 1000000) (hp : 0 ≤ p ∧ p ≤ 1000000) (hs : Blk w0 bs 115 [.slice ao nO cO, .int .i64 sg]) (hq : Blk w0 bp 3 [.int .i64 p]) :
    CallsV Tryz.prog 94 [.agg #[.int .i64 x.p, .int .i64 x.n, .int .i64 x.r, .int .i64 x.m], .pointer (some ⟨bs, 0, none⟩), .pointer (some ⟨bp, 0, none⟩)] w0 (fun v w' => v = .bool (!trd sg x p) ∧ Ext w0 w') := by
 refine f_n func94 ?_
 refine go ?_
 refine x_b fun bk2 w3 ebk2 sbk2 B4 u5 => ?_
 refine go ?_
 refine x_c func89 rfl rfl (trades_c sg ao nO cO x p _ hsg hx hp) ?_
 rintro _ w9 ⟨rfl, u10⟩ zu10
 refine go ?_
 refine f_1 results94 ?_
 exact ⟨rfl, u_d⟩

theorem queue2_c (sg : Int) (ao : Option Addr) (nO cO : Nat) (x y : Bid) (bs : Nat) (w0 : World) (hsg : sg = 1 ∨ sg = -1) (hs : Blk w0 bs 115 [.slice ao nO cO, .int .i64 sg]) :
    CallsV Tryz.prog 96 [.agg #[.int .i64 x.p, .int .i64 x.n, .int .i64 x.r, .int .i64 x.m], .agg #[.int .i64 y.p, .int .i64 y.n, .int .i64 y.r, .int .i64 y.m], .pointer (some ⟨bs, 0, none⟩)] w0 (fun v w' => (v = .int .i64 (cmpB sg x y) ∧ Gr w0 w') ∧ Ext w0 w') := by
 refine f_n func96 ?_
 refine go ?_
 refine t_boxG (cs := [.int .i64 x.p, .int .i64 x.n, .int .i64 x.r, .int .i64 x.m]) rfl rfl rfl rfl (fun bk2 w3 ebk2 sbk2 B4 u5 Gu5 => ?_)
 refine t_boxG (cs := [.int .i64 y.p, .int .i64 y.n, .int .i64 y.r, .int .i64 y.m]) rfl rfl rfl rfl (fun bk7 w8 ebk7 sbk7 B9 u10 Gu10 => ?_)
 refine go ?_
 refine c_drawnMG follows (fun _ => False) (OTl [0, 2, 4, 6, 8, 10, 16, 18, 20, 22, 26, 28, 30, 32, 13, 14, 25, 35, 37, 39, 40]) (by kernel_rfl) fun w13 u14 Gu14 => ?_
 have zu14 := u14.size
 refine go ?_
 refine t_call own91 rfl rfl rfl rfl (cmpI_c x.r y.r _) (fun v16 w17 r19 => ?_)
 obtain ⟨⟨rfl, Gu18⟩, u18⟩ := r19
 have zu18 := u18.size
 refine go ?_
 refine y_ari rfl rfl rfl rfl rfl (by have := cmpI3_rng x.r y.r; rcases hsg with h | h <;> rw [h] <;> omega) ?_
 refine go ?_
 refine t_call own91 rfl rfl rfl rfl (cmpI_c x.m y.m _) (fun v21 w22 r24 => ?_)
 obtain ⟨⟨rfl, Gu23⟩, u23⟩ := r24
 have zu23 := u23.size
 refine go ?_
 refine t_call own91 rfl rfl rfl rfl (cmpI_c x.p y.p _) (fun v26 w27 r29 => ?_)
 obtain ⟨⟨rfl, Gu28⟩, u28⟩ := r29
 have zu28 := u28.size
 refine go ?_
 refine t_bsliceG (ps := [(0, .int .i64 (sg * (cmpI3 x.r y.r))), (1, .int .i64 (cmpI3 x.m y.m)), (2, .int .i64 (cmpI3 x.p y.p))]) (cs := [.int .i64 (sg * (cmpI3 x.r y.r)), .int .i64 (cmpI3 x.m y.m), .int .i64 (cmpI3 x.p y.p)]) (e := 3) rfl rfl ⟨rfl, rfl⟩ (fun w => by kernel_rfl) (fun bk31 w32 ebk31 sbk31 B33 u34 Gu34 => ?_)
 refine go ?_
 refine t_call own90 rfl rfl rfl rfl (or3_c (sg * (cmpI3 x.r y.r)) (cmpI3 x.m y.m) (cmpI3 x.p y.p) bk31 _ B33) (fun v36 w37 r39 => ?_)
 obtain ⟨⟨rfl, Gu38⟩, u38⟩ := r39
 have zu38 := u38.size
 refine go ?_
 refine f_1 results96 ?_
 exact ⟨⟨rfl, (((((((((Gr.refl _).trans Gu5).trans Gu10).trans Gu14).trans Gu18).trans Gu23).trans Gu28).trans Gu34).trans Gu38)⟩, u_d⟩

end Go.Proofs.YtgoajalaomakpaaGreat
namespace Go.Proofs.YtgoajalaomakpaaGreat
open Go Go.RowKit
/-- A slice in memory, what it holds. -/
structure Hl (α : Type) where
  xs : List α
  ao : Option Addr
  g : Nat
  o : Nat
  cp : Nat
instance {α : Type} : Inhabited (Hl α) := ⟨⟨[], none, 0, 0, 0⟩⟩
def encHl {α : Type} (h : Hl α) : List Value := [.slice h.ao h.xs.length h.cp]
theorem Acc.ge {α : Type} {enc : α → List Value} {k : Nat} {e : TypeId} {base : Nat} {w : World} {ao : Option Addr} {g cap : Nat} {xs : List α} (h : Acc enc k e base w ao g cap xs) (hp : 0 < xs.length) : base ≤ g := by
  rcases h.at_ with ⟨_, h1, _⟩ | ⟨_, h2, _⟩
  · subst h1; simp at hp
  · exact h2
theorem subAddr0 (ao : Option Addr) (cap k : Nat) : subAddr ao cap 0 k = ao := by
  unfold subAddr
  split
  · rfl
  · cases ao <;> simp [Addr.add]
section
variable {α : Type} [Inhabited α] {p : α → Bool} {l : List α} {j k : Nat}
/-- What is kept of the first elements. -/
def kp (p : α → Bool) (l : List α) (j : Nat) : List α := (l.take j).filter fun x => !p x
/-- What DeleteFunc's slice holds when j elements are looked at. -/
def dl (p : α → Bool) (l : List α) (j : Nat) : List α := kp p l j ++ l.drop (kp p l j).length
omit [Inhabited α] in
theorem kp_le (h : j ≤ l.length) : (kp p l j).length ≤ j := by
  unfold kp
  have := List.length_filter_le (fun x => !p x) (l.take j)
  rw [List.length_take] at this
  omega
omit [Inhabited α] in
theorem dl_len (h : j ≤ l.length) : (dl p l j).length = l.length := by
  have := kp_le (p := p) h
  simp only [dl, List.length_append, List.length_drop]; omega
theorem dl_nth (h : j < l.length) : nth (dl p l j) j = nth l j := by
  have := kp_le (p := p) (Nat.le_of_lt h)
  simp only [dl, nth, List.getD_eq_getElem?_getD]
  rw [List.getElem?_append_right this, List.getElem?_drop]
  congr 2; omega
theorem kp_no (h : j < l.length) (hq : p (nth l j) = true) : kp p l (j + 1) = kp p l j := by
  unfold kp; rw [take_nth h, List.filter_append]; simp [hq]
theorem kp_yes (h : j < l.length) (hq : p (nth l j) = false) : kp p l (j + 1) = kp p l j ++ [nth l j] := by
  unfold kp; rw [take_nth h, List.filter_append]; simp [hq]
theorem dl_no (h : j < l.length) (hq : p (nth l j) = true) : dl p l (j + 1) = dl p l j := by unfold dl; rw [kp_no h hq]
theorem dl_yes (h : j < l.length) (hq : p (nth l j) = false) : dl p l (j + 1) = (dl p l j).set (kp p l j).length (nth l j) := by
  have h2 := kp_le (p := p) (Nat.le_of_lt h)
  unfold dl
  rw [kp_yes h hq, List.set_append_right _ _ (Nat.le_refl _), Nat.sub_self, drop_nth (xs := l) (i := (kp p l j).length) (by omega), List.set_cons_zero]
  simp
theorem take_ext {m : Nat} (h : m ≤ l.length) (hno : ∀ j, j < m → p (nth l j) = false) : kp p l m = l.take m := by
  unfold kp
  rw [List.filter_eq_self]
  intro x hx
  obtain ⟨i, hi, rfl⟩ := List.mem_iff_getElem.1 hx
  rw [List.length_take] at hi
  have := hno i (by omega)
  rw [nth_eq (by omega)] at this
  simp [this]
theorem kp_init (h : k < l.length) (hp : p (nth l k) = true) (hno : ∀ j, j < k → p (nth l j) = false) : kp p l (k + 1) = l.take k := by rw [kp_no h hp, take_ext (Nat.le_of_lt h) hno]
theorem dl_init (h : k < l.length) (hp : p (nth l k) = true) (hno : ∀ j, j < k → p (nth l j) = false) : dl p l (k + 1) = l := by
  unfold dl
  rw [kp_init h hp hno, List.length_take, Nat.min_eq_left (Nat.le_of_lt h), List.take_append_drop]
end
theorem dl_end {α : Type} {p : α → Bool} {l : List α} : (dl p l l.length).take (kp p l l.length).length = l.filter fun x => !p x := by
  unfold dl; rw [List.take_left']
  · simp [kp]
  · rfl
section
variable {P : Program} {ops : Array Oper} {Q : Exit → Act → World → Prop} {N : Nat} {ds : List Deferred} {rest : List Oper} {L : Slots} {w : World} {rd : Option Nat} {d : Nat} {ty : TypeId} {pos : String} {aft : Array Edge} {g : Option (Nat × Bool)}
theorem WL.value0 {o : Oper} {v : Value} {w' : World} (hg : grd ops L o.guard = true) (hd : o.dst = none)
    (hr : ∀ a, Kn N ds L a → (execOp a.eval o).run P w = .ok (.value v) w') (h : WL rd P ops Q N ds rest L w') : WL rd P ops Q N ds (o :: rest) L w := by
  refine ⟨fun a ha => ?_⟩
  unfold wpListIn
  rw [if_pos (ha.wanted hg)]
  unfold Oper.wpIn
  refine ⟨fun f _ => rnd_fn _ f, ?_⟩
  rw [semAt_of_ok (by simp) (hr a ha), Oper.uponIn_value, hd]
  exact h _ ha
theorem zero_cells {z : Value} {k n : Nat} (hz : z.cells.size = k) : (Builtin.zeroCells z.cells n).toList.length = n * k := by simp [Builtin.zeroCells, hz]
theorem zero_one {z : Value} {n : Nat} (h1 : z.cells.toList.all Value.oneCell' = true) : ∀ u ∈ (Builtin.zeroCells z.cells n).toList, u.oneCell' = true := by
  intro u hu
  simp only [Builtin.zeroCells] at hu
  rw [Array.toList_map] at hu
  obtain ⟨q, hq, rfl⟩ := List.mem_map.1 hu
  simp only [Array.toList_range, List.mem_range] at hq
  have hpos : 0 < z.cells.size := by
    rcases Nat.eq_zero_or_pos z.cells.size with h | h
    · rw [h, Nat.mul_zero] at hq; omega
    · exact h
  have hlt : q % z.cells.size < z.cells.size := Nat.mod_lt _ hpos
  have : z.cells[q % z.cells.size]! = z.cells[q % z.cells.size] := by simp [hlt]
  rw [this]
  exact List.all_eq_true.1 h1 _ (by rw [← Array.getElem_toList hlt]; exact List.getElem_mem _)
/-- clear(s[i:]) of a slice of the call's own. -/
theorem t_clear {α : Type} {enc : α → List Value} {k : Nat} {t e : TypeId} {z : Value} {base : Nat} {x : Operand} {ao : Option Addr} {gb cap i n c : Nat} {xs : List α} {ats : Array TypeId}
    (hu : P.underlying t = some (.slice e)) (ht : ats = #[t]) (hv : ∀ w, (zeroValue e).run P w = .ok z w) (hz : z.cells.size = k) (h1 : z.cells.toList.all Value.oneCell' = true) (hk : ∀ x, (enc x).length = k)
    (hg : grd ops L g = true) (hx : ev L x = some (.slice (subAddr ao cap i k) n c)) (hn : n = xs.length - i) (hi : i ≤ xs.length) (ha : Acc enc k e base w ao gb cap xs)
    (h : ∀ w', w'.heap.size = w.heap.size → Acc enc k e base w' ao gb cap (xs.take i) → Upd (fun j => j = gb ∧ base ≤ j) w w' → WL rd P ops Q N ds rest L w') :
    WL rd P ops Q N ds (⟨none, .call ⟨.builtin .clear, #[x], ats⟩, ty, pos, aft, g⟩ :: rest) L w := by
  subst ht hn
  have hsame : xs.length - i = 0 → WL rd P ops Q N ds (⟨none, .call ⟨.builtin .clear, #[x], #[t]⟩, ty, pos, aft, g⟩ :: rest) L w := fun h0 => by
    have e1 : xs.take i = xs := List.take_of_length_le (by omega)
    refine WL.value0 (v := .tuple #[]) (w' := w) hg rfl (fun a hk => ?_) (h w rfl (by rw [e1]; exact ha) (Upd.refl _ _))
    rw [h0] at hx
    simp only [execOp, resolve, invoke, builtin]
    cases hs : subAddr ao cap i k <;> rw [hs] at hx <;> simp [hk.ev hx, Builtin.clear_, run_underlying hu]
  rcases Nat.eq_zero_or_pos (xs.length - i) with h0 | hp
  · exact hsame h0
  rcases ha.at_ with ⟨_, h2, _⟩ | ⟨h2, h3, cur, h4, h5, h6, h7, h8⟩
  · subst h2; simp at hp
  subst h2
  have hB : Blk w gb e cur.toList := by unfold Blk; rw [h4]
  have hlen := flatMap_len hk xs
  have hzl := zero_cells (n := xs.length - i) hz
  have hcl : cur.toList.length = cap * k := by rw [Array.length_toList]; exact h7
  have hmul : i * k + (xs.length - i) * k = xs.length * k := by rw [← Nat.add_mul]; congr 1; omega
  have hcm : xs.length * k ≤ cap * k := Nat.mul_le_mul_right k h5
  have hsub : subAddr (some ⟨gb, 0, none⟩) cap i k = some ⟨gb, i * k, none⟩ := by rw [subAddr_some (by omega), Nat.zero_add]
  rw [hsub] at hx
  obtain ⟨w', hr, hB', hU, hs⟩ := run_storeCells (P := P) (Builtin.zeroCells z.cells (xs.length - i)).toList w cur.toList (i * k) 0 hB (by rw [hzl, hcl]; omega) (zero_one h1)
  refine WL.value0 (v := .tuple #[]) (w' := w') hg rfl (fun a hk => ?_) (h w' hs ⟨by rw [hs]; exact ha.lt, .inr ⟨rfl, h3, (lay cur.toList (i * k) (Builtin.zeroCells z.cells (xs.length - i)).toList).toArray, ?_, ?_, h6, ?_, ?_⟩⟩ (hU.mono fun j hj => ⟨hj, by omega⟩))
  · obtain ⟨m, hm⟩ : ∃ m, xs.length - i = m + 1 := ⟨xs.length - i - 1, by omega⟩
    rw [hm] at hx hr
    simp only [execOp, resolve, invoke, builtin]
    simp [hk.ev hx, Builtin.clear_, run_underlying hu, hv, hr]
  · have := hB'
    unfold Blk at this
    simpa using this
  · rw [List.length_take]; omega
  · simp only [List.size_toArray, lay_length, Array.length_toList]; exact h7
  · rw [List.length_take, Nat.min_eq_left hi, lay_ov _ _ _ (by rw [hzl, hcl]; omega)]
    have e1 : (i * k) ≤ cur.toList.length := by rw [Array.length_toList, h7]; omega
    rw [List.append_assoc, List.take_append_of_le_length (by rw [List.length_take]; omega), List.take_take, Nat.min_self]
    have e2 : cur.toList.take (i * k) = (cur.toList.take (xs.length * k)).take (i * k) := by rw [List.take_take, Nat.min_eq_left (by omega)]
    rw [e2, h8]
    have e3 : xs.flatMap enc = (xs.take i).flatMap enc ++ (xs.drop i).flatMap enc := by rw [← List.flatMap_append, List.take_append_drop]
    rw [e3, List.take_left' (by rw [flatMap_len hk, List.length_take, Nat.min_eq_left hi])]
/-- append(nil, make(S, m)...): a new row. -/
theorem t_appZN {t tn e : TypeId} {z : Value} {bytes k : Nat} (m : Nat) {s x : Operand} {mv : Int}
    (hu : P.underlying t = some (.slice e)) (hun : P.underlying tn = some (.int .i64)) (hi : (P.info? e).map (fun i => (i.zero, i.size, i.bytes)) = some (some z, k, bytes)) (hz : z.cells.size = k) (hk0 : 0 < k)
    (hg : grd ops L g = true) (hN : Nat.blt d N = true) (hs : ev L s = some (.slice none 0 0)) (hx : ev L x = some (.int .i64 mv)) (hm : mv = (m : Int)) (hm0 : 0 < m) (hsm : m ≤ 1000000) (hby : bytes ≤ 1000)
    (h : ∀ cap' w' zs, m ≤ cap' → cap' ≤ maxLen → List.length zs = cap' * k → Blk w' w.heap.size e zs → Ext w w' → WL rd P ops Q N ds rest ((d, .slice (some ⟨w.heap.size, 0, none⟩) m cap') :: L) w') :
    WL rd P ops Q N ds (⟨some d, .call ⟨.builtin .append, #[s, x], #[t, tn]⟩, ty, pos, aft, g⟩ :: rest) L w := by
  subst hm
  obtain ⟨i0, hi0, hi1, hi2, hi3⟩ := info_parts' hi
  have hold : (Builtin.firstCells i0.size 0 (.slice none 0 0)).run P w.drew = .ok (([] : List Value).toArray) w.drew := run_firstCells_none _ _ _ _ _
  have hb1 : m * bytes ≤ 1000000 * 1000 := Nat.mul_le_mul hsm hby
  have hr := Lib.run_append_grow_zeros (P := P) w t tn ty e i0 z .i64 .i64 hu hun hi0 hi1 none 0 0 [] hold m hm0 (by omega) (by omega) (by omega) (by rw [hi3]; omega) (by rw [hi3]; exact growslice_fits (by omega) (by rw [Nat.zero_add]; omega))
  rw [Nat.zero_add] at hr
  have hge := grownCap_ge w m 0 e
  have hle := grownCap_le_maxLen w m 0 e (by unfold maxLen; omega)
  generalize grownCap w m 0 e = G at hr hge hle
  have hzl : ∀ q, (Builtin.zeroCells z.cells q).size = q * k := fun q => by simp [Builtin.zeroCells, hz]
  have hB : Blk (w.drew.alloc (.cells (([] : List Value).toArray ++ Builtin.zeroCells z.cells m ++ Builtin.zeroCells z.cells (G - m)) e)) w.heap.size e ((Builtin.zeroCells z.cells m).toList ++ (Builtin.zeroCells z.cells (G - m)).toList) := by
    have := Blk.new w.drew e ((Builtin.zeroCells z.cells m).toList ++ (Builtin.zeroCells z.cells (G - m)).toList)
    have e2 : ((Builtin.zeroCells z.cells m).toList ++ (Builtin.zeroCells z.cells (G - m)).toList).toArray = ([] : List Value).toArray ++ Builtin.zeroCells z.cells m ++ Builtin.zeroCells z.cells (G - m) := by
      apply Array.toList_inj.1; simp
    rw [e2] at this
    exact this
  refine WL.value hg rfl hN (fun a hk => ?_) (h G _ _ hge hle ?_ hB ((Upd.drew w).trans (Upd.alloc _ _)))
  · simp only [execOp, resolve, invoke, builtin]
    simp [hk.ev hs, hk.ev hx, hr]
  · simp only [List.length_append, Array.length_toList, hzl]
    rw [← Nat.add_mul]
    congr 1; omega
end
end Go.Proofs.YtgoajalaomakpaaGreat
namespace Go.Proofs.YtgoajalaomakpaaGreat
open Go Go.RowKit
theorem lay_get : ∀ (vs cs : List Value) (i q : Nat), i + vs.length ≤ cs.length → (lay cs i vs)[q]? = if i ≤ q ∧ q < i + vs.length then vs[q - i]? else cs[q]?
  | [], cs, i, q, _ => by rw [if_neg (by simp only [List.length_nil]; omega)]; rfl
  | v :: vs, cs, i, q, h => by
    have hl : i < cs.length := by simp at h; omega
    show (lay (cs.set i v) (i + 1) vs)[q]? = _
    rw [lay_get vs (cs.set i v) (i + 1) q (by simp at h ⊢; omega)]
    by_cases h1 : q = i
    · subst h1
      rw [if_neg (by omega), if_pos (by simp), List.getElem?_set_self hl]
      simp
    · by_cases h2 : i + 1 ≤ q ∧ q < i + 1 + vs.length
      · rw [if_pos h2, if_pos (by simp; omega), show q - i = (q - (i + 1)) + 1 by omega]
        rfl
      · rw [if_neg h2, if_neg (by simp; omega), List.getElem?_set_ne (by omega)]
/-- A block of the call's own whose first cells are the elements xs. -/
structure Wr {α : Type} [Inhabited α] (enc : α → List Value) (k : Nat) (e : TypeId) (w : World) (g : Nat) (xs : List α) : Prop where
  at_ : 0 < xs.length → ∃ cur : Array Value, w.heap[g]? = some (.cells cur e (0, 0)) ∧ xs.length * k ≤ cur.size ∧ ∀ i, i < xs.length → ∀ (r : Nat) (v : Value), (enc (nth xs i))[r]? = some v → cur[i * k + r]? = some v
section
variable {α : Type} [Inhabited α] {enc : α → List Value} {k : Nat} {e : TypeId} {w w' : World} {g : Nat} {xs : List α}
theorem Acc.wr {base : Nat} {ao : Option Addr} {cap : Nat} (h : Acc enc k e base w ao g cap xs) (hk : ∀ x, (enc x).length = k) : Wr enc k e w g xs := ⟨fun hp => by
  rcases h.at_ with ⟨_, h1, _⟩ | ⟨_, _, cur, hc, hl, _, hsz, htk⟩
  · subst h1; simp at hp
  · refine ⟨cur, hc, by rw [hsz]; exact Nat.mul_le_mul_right k hl, fun i hi r v hv => ?_⟩
    have h1 := flatMap_at hk xs i r v hi hv
    rw [← htk, List.getElem?_take] at h1
    split at h1
    · simpa using h1
    · cases h1⟩
theorem Wr.lt (h : Wr enc k e w g xs) (hp : 0 < xs.length) : g < w.heap.size := by
  obtain ⟨cur, hc, _⟩ := h.at_ hp
  exact (Array.getElem?_eq_some_iff.1 hc).1
theorem Wr.keep {S : Nat → Prop} (h : Wr enc k e w g xs) (u : Upd S w w') (hn : 0 < xs.length → ¬ S g) : Wr enc k e w' g xs := ⟨fun hp => by
  obtain ⟨cur, hc, hr⟩ := h.at_ hp
  exact ⟨cur, (u.block g (h.lt hp) (hn hp)).trans hc, hr⟩⟩
theorem Wr.sl {ao : Option Addr} (h : Wr enc k e w g xs) (ha : 0 < xs.length → ao = some ⟨g, 0, none⟩) : Sl enc k w ao g 0 xs :=
  ⟨ha, h.lt, fun i hi j v hv => by
    obtain ⟨cur, hc, hs, hr⟩ := h.at_ (by omega)
    have hB : Blk w g e cur.toList := by simpa [Blk] using hc
    rw [Nat.zero_add]
    exact hB.get (by simpa using hr i hi j v hv)⟩
end
section
variable {rd : Option Nat} {P : Program} {ops : Array Oper} {Q : Exit → Act → World → Prop} {N : Nat} {ds : List Deferred} {rest : List Oper} {L : Slots} {w : World}
variable {ty : TypeId} {pos : String} {aft : Array Edge} {gd : Option (Nat × Bool)}
/-- A store into an element of a slice of the call's own: the element is x'. -/
theorem t_storeW {α : Type} [Inhabited α] {enc : α → List Value} {k : Nat} {u e : TypeId} {x y : Operand} {g j o' off n : Nat} {xs : List α} {vs : List Value} {v : Value} (x' : α) (hk : ∀ x, (enc x).length = k) (hs : ∀ w, (sizeOf u).run P w = .ok n w) (hg : grd ops L gd = true)
    (hx : ev L x = some (.pointer (some ⟨g, off, none⟩))) (hoff : off = j * k + o') (hy : ev L y = some v) (hw : Wr enc k e w g xs) (hj : j < xs.length) (hc : v.cells = vs.toArray) (hn : vs.length = n) (hl : o' + n ≤ k) (hv : ∀ v ∈ vs, v.oneCell' = true) (hx' : enc x' = lay (enc (nth xs j)) o' vs)
    (h : ∀ w', Wr enc k e w' g (xs.set j x') → Upd (· = g) w w' → WL rd P ops Q N ds rest L w') :
    WL rd P ops Q N ds (⟨none, .store u x y, ty, pos, aft, gd⟩ :: rest) L w := by
  subst hoff
  obtain ⟨cur, hcur, hsz, hr⟩ := hw.at_ (by omega)
  have hB : Blk w g e cur.toList := by simpa [Blk] using hcur
  have hjk : (j + 1) * k ≤ xs.length * k := Nat.mul_le_mul_right k hj
  rw [Nat.add_mul, Nat.one_mul] at hjk
  have hle : j * k + o' + n ≤ cur.toList.length := by rw [Array.length_toList]; omega
  refine t_store (b := g) (t := e) hs hg hx hy hB hc hn hle hv fun w' hsize hB' hu => h w' ⟨fun hp => ⟨(lay cur.toList (j * k + o') vs).toArray, hB', by rw [List.length_set, List.size_toArray, lay_length, Array.length_toList]; exact hsz, fun i hi r z hz => ?_⟩⟩ hu
  rw [List.length_set] at hi
  rw [List.getElem?_toArray, lay_get _ _ _ _ (by rw [hn]; exact hle)]
  by_cases hij : i = j
  · subst hij
    rw [show nth (xs.set i x') i = x' by simp [nth, List.getD_eq_getElem?_getD, hi]] at hz
    rw [hx', lay_get _ _ _ _ (by rw [hn, hk]; exact hl)] at hz
    by_cases hc1 : o' ≤ r ∧ r < o' + vs.length
    · rw [if_pos hc1] at hz
      rw [if_pos (by omega), show i * k + r - (i * k + o') = r - o' by omega]; exact hz
    · rw [if_neg hc1] at hz
      rw [if_neg (by omega)]
      have := hr i hi r z hz
      simpa using this
  · rw [show nth (xs.set j x') i = nth xs i by simp [nth, List.getD_eq_getElem?_getD, List.getElem?_set_ne (Ne.symm hij)]] at hz
    have hrk : r < k := by
      have := (List.getElem?_eq_some_iff.1 hz).1
      rwa [hk] at this
    have := hr i hi r z hz
    rw [if_neg ?_]
    · simpa using this
    · intro hcc
      rcases Nat.lt_or_gt_of_ne hij with h1 | h1
      · have : (i + 1) * k ≤ j * k := Nat.mul_le_mul_right k h1
        rw [Nat.add_mul, Nat.one_mul] at this
        omega
      · have : (j + 1) * k ≤ i * k := Nat.mul_le_mul_right k h1
        rw [Nat.add_mul, Nat.one_mul] at this
        omega
end
end Go.Proofs.YtgoajalaomakpaaGreat
namespace Go.Proofs.YtgoajalaomakpaaGreat
open Go Go.RowKit
/-- A gathered slice, put together again from its elements. -/
theorem Acc.ofWr {α : Type} [Inhabited α] {enc : α → List Value} {k : Nat} {e : TypeId} {base : Nat} {w w' : World} {ao : Option Addr} {g cap : Nat} {xs ys : List α} (h : Acc enc k e base w ao g cap xs) (hk : ∀ x, (enc x).length = k) (hp : 0 < xs.length)
    (hw : Wr enc k e w' g ys) (hl : ys.length = xs.length) (hsz : ∀ cur : Array Value, w.heap[g]? = some (.cells cur e (0, 0)) → ∃ cur' : Array Value, w'.heap[g]? = some (.cells cur' e (0, 0)) ∧ cur'.size = cur.size) : Acc enc k e base w' ao g cap ys := by
  rcases h.at_ with ⟨_, h1, _⟩ | ⟨h1, h2, cur, h3, h4, h5, h6, _⟩
  · subst h1; simp at hp
  · obtain ⟨cur', hc, hs⟩ := hsz cur h3
    obtain ⟨cur2, hc2, hs2, hr⟩ := hw.at_ (by omega)
    rw [hc] at hc2
    injection hc2 with hc2
    injection hc2 with hc2
    subst hc2
    refine ⟨lt_of_block hc, .inr ⟨h1, h2, cur', hc, by omega, h5, by rw [hs, h6], ?_⟩⟩
    refine List.ext_getElem? fun q => ?_
    by_cases hq : q < ys.length * k
    · have hk0 : 0 < k := by
        rcases Nat.eq_zero_or_pos k with h | h
        · subst h; simp at hq
        · exact h
      have hi : q / k < ys.length := (Nat.div_lt_iff_lt_mul hk0).2 hq
      have hqr : q / k * k + q % k = q := by rw [Nat.mul_comm]; exact Nat.div_add_mod q k
      have hlt : q % k < (enc (nth ys (q / k))).length := by rw [hk]; exact Nat.mod_lt _ hk0
      have hv := List.getElem?_eq_getElem hlt
      have e1 := hr (q / k) hi (q % k) _ hv
      have e2 := flatMap_at hk ys (q / k) (q % k) _ hi hv
      rw [hqr] at e1 e2
      rw [List.getElem?_take, if_pos hq, e2]
      simpa using e1
    · rw [List.getElem?_eq_none (by rw [List.length_take]; omega), List.getElem?_eq_none (by rw [flatMap_len hk]; omega)]
theorem wr_set {α : Type} [Inhabited α] {enc : α → List Value} {k : Nat} {e : TypeId} {w w' : World} {g j o' off n : Nat} {xs : List α} {vs : List Value} {x' : α} {cur : List Value} (hk : ∀ x, (enc x).length = k) (hw : Wr enc k e w g xs) (hj : j < xs.length) (hB : Blk w g e cur) (hB' : Blk w' g e (lay cur off vs)) (hn : vs.length = n) (hl : o' + n ≤ k) (hx' : enc x' = lay (enc (nth xs j)) o' vs) (hoff : off = j * k + o') : Wr enc k e w' g (xs.set j x') := by
  subst hoff
  obtain ⟨cur2, hcur, hsz, hr⟩ := hw.at_ (by omega)
  have e1 : cur2 = cur.toArray := by
    have : w.heap[g]? = some (.cells cur.toArray e (0, 0)) := hB
    rw [hcur] at this
    injection this with this
    injection this with this
  subst e1
  have hjk : (j + 1) * k ≤ xs.length * k := Nat.mul_le_mul_right k hj
  rw [Nat.add_mul, Nat.one_mul] at hjk
  rw [List.size_toArray] at hsz
  have hle : j * k + o' + n ≤ cur.length := by omega
  refine ⟨fun hp => ⟨(lay cur (j * k + o') vs).toArray, hB', by rw [List.length_set, List.size_toArray, lay_length]; exact hsz, fun i hi r z hz => ?_⟩⟩
  rw [List.length_set] at hi
  rw [List.getElem?_toArray, lay_get _ _ _ _ (by rw [hn]; exact hle)]
  by_cases hij : i = j
  · subst hij
    rw [show nth (xs.set i x') i = x' by simp [nth, List.getD_eq_getElem?_getD, hi]] at hz
    rw [hx', lay_get _ _ _ _ (by rw [hn, hk]; exact hl)] at hz
    by_cases hc1 : o' ≤ r ∧ r < o' + vs.length
    · rw [if_pos hc1] at hz
      rw [if_pos (by omega), show i * k + r - (i * k + o') = r - o' by omega]; exact hz
    · rw [if_neg hc1] at hz
      rw [if_neg (by omega)]
      have := hr i hi r z hz
      simpa using this
  · rw [show nth (xs.set j x') i = nth xs i by simp [nth, List.getD_eq_getElem?_getD, List.getElem?_set_ne (Ne.symm hij)]] at hz
    have hrk : r < k := by
      have := (List.getElem?_eq_some_iff.1 hz).1
      rwa [hk] at this
    have := hr i hi r z hz
    rw [if_neg ?_]
    · simpa using this
    · intro hcc
      rcases Nat.lt_or_gt_of_ne hij with h1 | h1
      · have : (i + 1) * k ≤ j * k := Nat.mul_le_mul_right k h1
        rw [Nat.add_mul, Nat.one_mul] at this
        omega
      · have : (j + 1) * k ≤ i * k := Nat.mul_le_mul_right k h1
        rw [Nat.add_mul, Nat.one_mul] at this
        omega
section
variable {rd : Option Nat} {P : Program} {ops : Array Oper} {Q : Exit → Act → World → Prop} {N : Nat} {ds : List Deferred} {rest : List Oper} {L : Slots} {w : World}
variable {ty : TypeId} {pos : String} {aft : Array Edge} {gd : Option (Nat × Bool)}
/-- A store into an element of a gathered slice: the element is x'. -/
theorem t_storeA {α : Type} [Inhabited α] {enc : α → List Value} {k : Nat} {u e : TypeId} {x y : Operand} {base : Nat} {ao : Option Addr} {g cap j o' off n : Nat} {xs : List α} {vs : List Value} {v : Value} (x' : α) (hk : ∀ x, (enc x).length = k) (hs : ∀ w, (sizeOf u).run P w = .ok n w) (hg : grd ops L gd = true)
    (hx : ev L x = some (.pointer (some ⟨g, off, none⟩))) (hoff : off = j * k + o') (hy : ev L y = some v) (hw : Acc enc k e base w ao g cap xs) (hj : j < xs.length) (hc : v.cells = vs.toArray) (hn : vs.length = n) (hl : o' + n ≤ k) (hv : ∀ v ∈ vs, v.oneCell' = true) (hx' : enc x' = lay (enc (nth xs j)) o' vs)
    (h : ∀ w', Acc enc k e base w' ao g cap (xs.set j x') → Upd (· = g) w w' → WL rd P ops Q N ds rest L w') :
    WL rd P ops Q N ds (⟨none, .store u x y, ty, pos, aft, gd⟩ :: rest) L w := by
  have hwr := hw.wr hk
  obtain ⟨cur, hcur, hsz, hr⟩ := hwr.at_ (by omega)
  have hB : Blk w g e cur.toList := by simpa [Blk] using hcur
  have hjk : (j + 1) * k ≤ xs.length * k := Nat.mul_le_mul_right k hj
  rw [Nat.add_mul, Nat.one_mul] at hjk
  have hle : off + n ≤ cur.toList.length := by rw [Array.length_toList, hoff]; omega
  refine t_store (b := g) (t := e) hs hg hx hy hB hc hn hle hv fun w' hsize hB' hu => ?_
  refine h w' (hw.ofWr hk (by omega) (ys := xs.set j x') ?_ (by rw [List.length_set]) fun c2 hc2 => ?_) hu
  · exact wr_set hk hwr hj hB hB' hn hl hx' hoff
  · rw [hcur] at hc2
    injection hc2 with hc2
    injection hc2 with hc2
    subst hc2
    exact ⟨(lay cur.toList off vs).toArray, hB', by rw [List.size_toArray, lay_length, Array.length_toList]⟩
end
end Go.Proofs.YtgoajalaomakpaaGreat
namespace Go.Proofs.YtgoajalaomakpaaGreat
open Go Go.RowKit

/-- Ascending: no later one is less than an earlier one. -/
def Asc {α : Type} [Inhabited α] (cf : α → α → Int) (ys : List α) : Prop := ∀ i j, i < j → j < ys.length → ¬ cf (nth ys j) (nth ys i) < 0

theorem nth_toArray {α : Type} [Inhabited α] (xs : List α) (i : Nat) : (xs.toArray)[i]! = nth xs i := by
  unfold nth
  rw [List.getD_eq_getElem?_getD]
  rcases Nat.lt_or_ge i xs.length with h | h
  · rw [getElem!_pos _ i (by simpa using h)]
    simp [h]
  · rw [getElem!_neg _ i (by simpa using h)]
    simp [List.getElem?_eq_none h]

theorem upd_sorted {α : Type} [Inhabited α] (enc : α → List Value) (k : Nat) (w : World) (g n : Nat) (d : Array α) (os : Array Obj) : Upd (· = g) w (sortWorldK enc k w g 0 n d os) := by
  refine ⟨rfl, rfl, rfl, ?_, fun i hi hn => ?_⟩
  · simp only [sortWorldK, Go.Sort.putRowK, Go.Sort.grow, Go.Sort.putRow, Go.Sort.mapBlock, Go.Sort.ahead]
    simp
  · simp only [sortWorldK, Go.Sort.putRowK, Go.Sort.grow, Go.Sort.putRow, Go.Sort.mapBlock, Go.Sort.ahead]
    rw [Array.getElem?_append_left (by simpa using hi), Array.getElem?_modify]
    simp [show ¬ g = i from fun e => hn e.symm]

theorem acc_sorted {α : Type} [Inhabited α] {enc : α → List Value} {k : Nat} {e : TypeId} {base : Nat} {w : World} {ao : Option Addr} {g cap : Nat} {xs : List α} (hk0 : 0 < k) (hk : ∀ x, (enc x).length = k) (h : Acc enc k e base w ao g cap xs) (hx : 0 < xs.length)
    (d : Array α) (hd : d.size = xs.length) (n : Nat) (os : Array Obj) : Acc enc k e base (sortWorldK enc k w g 0 n d os) ao g cap d.toList := by
  have u := upd_sorted enc k w g n d os
  refine ⟨Nat.lt_of_lt_of_le h.lt u.size, ?_⟩
  rcases h.at_ with ⟨_, h1, _⟩ | ⟨h1, h2, cur, h3, h4, h5, h6, h7⟩
  · subst h1; simp at hx
  · refine .inr ⟨h1, h2, Go.Sort.putCells id 0 (Go.Sort.flatK enc k d) cur, ?_, by simpa [hd] using h4, h5, by simp [Go.Sort.putCells, h6], ?_⟩
    · simp only [sortWorldK, Go.Sort.putRowK, Go.Sort.grow, Go.Sort.putRow, Go.Sort.mapBlock, Go.Sort.ahead]
      rw [Array.getElem?_append_left (by simpa using h.lt), Array.getElem?_modify]
      simp [h3, Go.Sort.onCells]
    · have hcap : xs.length * k ≤ cap * k := Nat.mul_le_mul_right _ h4
      apply List.ext_getElem?
      intro t
      rcases Nat.lt_or_ge t (xs.length * k) with ht | ht
      · have htd : t / k < d.toList.length := by simp [hd]; exact (Nat.div_lt_iff_lt_mul hk0).2 ht
        have hmod : t % k < k := Nat.mod_lt _ hk0
        have hv : (enc (nth d.toList (t / k)))[t % k]? = some ((enc (nth d.toList (t / k)))[t % k]'(by rw [hk]; exact hmod)) := by simp [hk, hmod]
        have h8 := flatMap_at hk d.toList (t / k) (t % k) _ htd hv
        rw [show t / k * k + t % k = t from Nat.div_add_mod' t k] at h8
        rw [h8, List.getElem?_take, if_pos (by simpa [hd] using ht)]
        have htc : t < cur.size := by omega
        rw [Array.getElem?_toList]
        simp only [Go.Sort.putCells]
        rw [Array.getElem?_mapIdx]
        simp only [Array.getElem?_eq_getElem htc, Option.map_some, Nat.zero_le, true_and, Nat.zero_add, Nat.sub_zero, id]
        rw [if_pos (by rw [Go.Sort.size_flatK, hd]; exact ht), Go.Sort.get_flatK _ _ _ t (by rw [hd]; exact ht)]
        have hda : d[t / k]! = nth d.toList (t / k) := by
          have := nth_toArray d.toList (t / k)
          simpa using this
        rw [hda, getElem!_pos _ (t % k) (by rw [hk]; exact hmod)]
      · rw [List.getElem?_eq_none (by simp [hd]; omega), List.getElem?_eq_none (by rw [flatMap_len hk]; simp [hd]; omega)]

theorem holdsK_acc {α : Type} [Inhabited α] {enc : α → List Value} {k : Nat} {e : TypeId} {base : Nat} {w : World} {ao : Option Addr} {g cap : Nat} {xs : List α} (hk0 : 0 < k) (hk : ∀ x, (enc x).length = k) (h : Acc enc k e base w ao g cap xs) (hx : 0 < xs.length) : Go.Sort.HoldsK enc k w g 0 xs.toArray := by
  intro t ht
  rw [Go.Sort.size_flatK] at ht
  have ht' : t < xs.length * k := by simpa using ht
  rw [Go.Sort.get_flatK _ _ _ t ht, nth_toArray]
  have hmod : t % k < k := Nat.mod_lt _ hk0
  have htd : t / k < xs.length := (Nat.div_lt_iff_lt_mul hk0).2 ht'
  have h8 := (h.sl hk).at_ (t / k) htd (t % k) ((enc (nth xs (t / k)))[t % k]'(by rw [hk]; exact hmod)) (by simp [hk, hmod])
  rw [Nat.zero_add, Nat.div_add_mod'] at h8
  refine ⟨by rw [Nat.zero_add, h8, getElem!_pos _ (t % k) (by rw [hk]; exact hmod)]; rfl, ?_⟩
  rcases h.at_ with ⟨_, h1, _⟩ | ⟨_, _, cur, h3, _⟩
  · subst h1; simp at hx
  · simp [World.frozen?, h3]

/-- A comparison that lays blocks, draws, and turns nothing. -/
def CmpOk {α : Type} (P : Program) (g : Nat) (enc : α → List Value) (cf : α → α → Int) : Prop :=
  ∀ (x y : α) (W : World), Calls P g #[.agg (enc x).toArray, .agg (enc y).toArray] W fun e w' => e = .returned (.int .i64 (cf x y)) ∧ ∃ q os', w' = Go.Sort.grow (W.drewN q) os'

theorem sort_c {α : Type} [Inhabited α] {P : Program} {ρ : Go.Shelf.Ren} (L : SlLaysF0.n6 P ρ) (k : Nat) (hk0 : 0 < k) (aE : ∀ w, (isAgg (ρ.t 24)).run P w = .ok true w) (zE : ∀ w, (sizeOf (ρ.t 24)).run P w = .ok k w) (enc : α → List Value) (hk : ∀ x, (enc x).length = k) (h1 : ∀ x, ∀ v ∈ enc x, v.oneCell' = true)
    (cf : α → α → Int) (hO : Go.Sort.SWO (ltOf cf)) (g : Nat) (eg : Own P g) (hcmp : CmpOk P g enc cf) (e : TypeId) (base : Nat) (ao : Option Addr) (gb cap : Nat) (xs : List α) (w : World) (ha : Acc enc k e base w ao gb cap xs) (hlen : xs.length ≤ 1000000) :
    CallsV P (ρ.f 6) [.slice ao xs.length cap, .func (.func g) #[] #[]] w fun v w' => ∃ ys, List.Perm ys xs ∧ Asc cf ys ∧ Acc enc k e base w' ao gb cap ys ∧ Upd (fun i => i = gb ∧ base ≤ i) w w' ∧ v = .tuple #[] := by
  rcases Nat.eq_zero_or_pos xs.length with h0 | h0
  · have : xs = [] := List.eq_nil_of_length_eq_zero h0
    subst this
    refine Calls.mono (AnyF.slices_SortFunc_none L ao cap _ w) ?_
    rintro e w' ⟨rfl, rfl⟩
    exact ⟨_, rfl, [], List.Perm.refl _, fun i j _ h => by simp at h, ha, Upd.refl _ _, rfl⟩
  · have hao := (ha.sl hk).addr h0
    have hb : base ≤ gb := by
      rcases ha.at_ with ⟨_, h2, _⟩ | ⟨_, h2, _⟩
      · subst h2; simp at h0
      · exact h2
    have hc := AnyQ.slices_SortFunc L k aE zE enc hk h1 cf hO g #[] gb 0 cap xs.toArray w (fun args w => eg.run args w) (fun m os dk _ x y => hcmp x y _) (holdsK_acc hk0 hk ha h0) ha.lt (by simp; omega)
    have hsz : xs.toArray.size = xs.length := by simp
    rw [hsz] at hc
    subst hao
    refine Calls.mono hc ?_
    rintro e w' ⟨rfl, d', n, os, hp, hs, rfl⟩
    have hds : d'.size = xs.length := by rw [hp.1]; simp
    have hdl : d'.toList.length = xs.length := by simpa using hds
    have hacc := acc_sorted hk0 hk ha h0 d' hds n os
    refine ⟨_, rfl, d'.toList, ?_, ?_, hacc, (upd_sorted enc k w gb n d' os).mono (fun i hi => ⟨hi, by omega⟩), rfl⟩
    · have h3 := hp.2.2
      rw [show d'.extract 0 xs.length = d' from by rw [← hds]; exact Array.extract_size, show xs.toArray.extract 0 xs.length = xs.toArray from by rw [← hsz]; exact Array.extract_size] at h3
      simpa using h3
    · intro i j hij hj
      have h4 := hs i j (Nat.zero_le _) hij (by omega)
      have hn : ∀ i, d'[i]! = nth d'.toList i := fun i => by have := nth_toArray d'.toList i; simpa using this
      rw [hn, hn] at h4
      unfold ltOf at h4
      simpa using h4

/-- The same with a comparison that has captured something. -/
theorem sort_cc {α : Type} [Inhabited α] {P : Program} {ρ : Go.Shelf.Ren} (L : SlLaysF0.n6 P ρ) (k : Nat) (hk0 : 0 < k) (aE : ∀ w, (isAgg (ρ.t 24)).run P w = .ok true w) (zE : ∀ w, (sizeOf (ρ.t 24)).run P w = .ok k w) (enc : α → List Value) (hk : ∀ x, (enc x).length = k) (h1 : ∀ x, ∀ v ∈ enc x, v.oneCell' = true)
    (cf : α → α → Int) (hO : Go.Sort.SWO (ltOf cf)) (g : Nat) (eg : Own P g) (cb : List Value) (e : TypeId) (base : Nat) (ao : Option Addr) (gb cap : Nat) (xs : List α) (w : World) (hcmp : 0 < xs.length → ∀ W, Upd (· = gb) w W → ∀ x y, Calls P g (#[.agg (enc x).toArray, .agg (enc y).toArray] ++ cb.toArray) W fun e w' => e = .returned (.int .i64 (cf x y)) ∧ ∃ q os', w' = Go.Sort.grow (W.drewN q) os') (ha : Acc enc k e base w ao gb cap xs) (hlen : xs.length ≤ 1000000) :
    CallsV P (ρ.f 6) [.slice ao xs.length cap, .func (.func g) #[] cb.toArray] w fun v w' => ∃ ys, List.Perm ys xs ∧ Asc cf ys ∧ Acc enc k e base w' ao gb cap ys ∧ Upd (fun i => i = gb ∧ base ≤ i) w w' ∧ v = .tuple #[] := by
  rcases Nat.eq_zero_or_pos xs.length with h0 | h0
  · have : xs = [] := List.eq_nil_of_length_eq_zero h0
    subst this
    refine Calls.mono (AnyF.slices_SortFunc_none L ao cap _ w) ?_
    rintro e w' ⟨rfl, rfl⟩
    exact ⟨_, rfl, [], List.Perm.refl _, fun i j _ h => by simp at h, ha, Upd.refl _ _, rfl⟩
  · have hao := (ha.sl hk).addr h0
    have hb : base ≤ gb := by
      rcases ha.at_ with ⟨_, h2, _⟩ | ⟨_, h2, _⟩
      · subst h2; simp at h0
      · exact h2
    have hc := AnyQ.slices_SortFunc L k aE zE enc hk h1 cf hO g cb.toArray gb 0 cap xs.toArray w (fun args w => eg.run args w) (fun m os dk hdk x y => hcmp h0 _ (upd_sorted enc k w gb m dk os) x y) (holdsK_acc hk0 hk ha h0) ha.lt (by simp; omega)
    have hsz : xs.toArray.size = xs.length := by simp
    rw [hsz] at hc
    subst hao
    refine Calls.mono hc ?_
    rintro e w' ⟨rfl, d', n, os, hp, hs, rfl⟩
    have hds : d'.size = xs.length := by rw [hp.1]; simp
    have hdl : d'.toList.length = xs.length := by simpa using hds
    have hacc := acc_sorted hk0 hk ha h0 d' hds n os
    refine ⟨_, rfl, d'.toList, ?_, ?_, hacc, (upd_sorted enc k w gb n d' os).mono (fun i hi => ⟨hi, by omega⟩), rfl⟩
    · have h3 := hp.2.2
      rw [show d'.extract 0 xs.length = d' from by rw [← hds]; exact Array.extract_size, show xs.toArray.extract 0 xs.length = xs.toArray from by rw [← hsz]; exact Array.extract_size] at h3
      simpa using h3
    · intro i j hij hj
      have h4 := hs i j (Nat.zero_le _) hij (by omega)
      have hn : ∀ i, d'[i]! = nth d'.toList i := fun i => by have := nth_toArray d'.toList i; simpa using this
      rw [hn, hn] at h4
      unfold ltOf at h4
      simpa using h4

end Go.Proofs.YtgoajalaomakpaaGreat
namespace Go.Proofs.YtgoajalaomakpaaGreat
open Go Go.RowKit

theorem Gr.grow {w w' : World} (h : Gr w w') : ∃ q os', w' = Go.Sort.grow (w.drewN q) os' := by
  obtain ⟨h1, h2, h3, h4, os, h5⟩ := h
  refine ⟨w'.drawn - w.drawn, os, ?_⟩
  cases w; cases w'
  simp only [Go.Sort.grow, World.drewN] at *
  simp_all
theorem len_c {P : Program} {ρ : Go.Shelf.Ren} (L : SlLaysF0.n14 P ρ) (n : Nat) (hn : n ≤ 1000000) (w : World) : CallsV P (ρ.f 15) [.int .u64 (n : Int)] w fun v w' => ∃ k : Nat, v = .int .i64 (k : Int) ∧ k < 4611686018427387904 ∧ Ext w w' := by
  have h := Any.bits_Len (SlLaysF0.n15.bits (P := P) (ρ := ρ) { L with }) (n : Int) w (by omega) (by omega)
  rw [Int.toNat_natCast] at h
  refine Calls.mono h ?_
  rintro e w' ⟨rfl, rfl⟩
  exact ⟨_, rfl, Lib.bitLen n, rfl, Nat.lt_of_le_of_lt (Lib.bitLen_le n 62 (by omega) (by omega)) (by omega), Upd.refl _ _⟩
theorem pdq_c {α : Type} [Inhabited α] {P : Program} {ρ : Go.Shelf.Ren} (L : SlLaysF0.n14 P ρ) (k : Nat) (hk0 : 0 < k) (aE : ∀ w, (isAgg (ρ.t 24)).run P w = .ok true w) (zE : ∀ w, (sizeOf (ρ.t 24)).run P w = .ok k w) (enc : α → List Value) (hk : ∀ x, (enc x).length = k) (h1 : ∀ x, ∀ v ∈ enc x, v.oneCell' = true)
    (cf : α → α → Int) (hO : Go.Sort.SWO (ltOf cf)) (g : Nat) (eg : Own P g) (hcmp : CmpOk P g enc cf) (e : TypeId) (base : Nat) (ao : Option Addr) (gb cap : Nat) (xs : List α) (lim : Nat) (hlim : lim < 4611686018427387904) (w : World) (ha : Acc enc k e base w ao gb cap xs) (hlen : xs.length ≤ 1000000) :
    CallsV P (ρ.f 14) [.slice ao xs.length cap, .int .i64 0, .int .i64 (xs.length : Int), .int .i64 (lim : Int), .func (.func g) #[] #[]] w fun v w' => ∃ ys, List.Perm ys xs ∧ Asc cf ys ∧ Acc enc k e base w' ao gb cap ys ∧ Upd (fun i => i = gb ∧ base ≤ i) w w' ∧ v = .tuple #[] := by
  rcases Nat.eq_zero_or_pos xs.length with h0 | h0
  · have : xs = [] := List.eq_nil_of_length_eq_zero h0
    subst this
    refine Calls.mono (AnyF.pdqsortCmpFunc_none L ao cap lim _ w) ?_
    rintro e w' ⟨rfl, rfl⟩
    exact ⟨_, rfl, [], List.Perm.refl _, fun i j _ h => by simp at h, ha, Upd.refl _ _, rfl⟩
  · have hao := (ha.sl hk).addr h0
    have hb : base ≤ gb := by
      rcases ha.at_ with ⟨_, h2, _⟩ | ⟨_, h2, _⟩
      · subst h2; simp at h0
      · exact h2
    have hsz : xs.toArray.size = xs.length := by simp
    have hH := holdsK_acc hk0 hk ha h0
    have hc := AnyQ.pdqsortCmpFunc_all L k aE zE enc cf g #[] hO gb 0 cap xs.toArray w (fun args w => eg.run args w) (fun m os dk _ x y => hcmp x y _) ⟨hk, h1, hH, ha.lt⟩ (xs.length + 1) 0 xs.length lim xs.toArray w (by omega) rfl (SWK.start hH) (Nat.zero_le _) (by rw [hsz]; exact Nat.le_refl _) (by rw [hsz]; omega) hlim (Or.inl rfl)
    rw [hsz] at hc
    subst hao
    refine Calls.mono hc ?_
    rintro e w' ⟨rfl, n, os, rfl⟩
    have hps := Go.Sort.pdq_sorts (ltOf cf) hO xs.toArray 0 xs.length lim true true (Nat.zero_le _) (by rw [hsz]; exact Nat.le_refl _) (Or.inl rfl)
    have hp := hps.1
    have hs := hps.2
    generalize Go.Sort.pdq (ltOf cf) xs.toArray 0 xs.length lim true true = d' at hp hs ⊢
    have hds : d'.size = xs.length := by rw [hp.1]; simp
    have hdl : d'.toList.length = xs.length := by simpa using hds
    have hacc := acc_sorted hk0 hk ha h0 d' hds n os
    refine ⟨_, rfl, d'.toList, ?_, ?_, hacc, (upd_sorted enc k w gb n d' os).mono (fun i hi => ⟨hi, by omega⟩), rfl⟩
    · have h3 := hp.2.2
      rw [show d'.extract 0 xs.length = d' from by rw [← hds]; exact Array.extract_size, show xs.toArray.extract 0 xs.length = xs.toArray from by rw [← hsz]; exact Array.extract_size] at h3
      simpa using h3
    · intro i j hij hj
      have h4 := hs i j (Nat.zero_le _) hij (by omega)
      have hn : ∀ i, d'[i]! = nth d'.toList i := fun i => by have := nth_toArray d'.toList i; simpa using this
      rw [hn, hn] at h4
      unfold ltOf at h4
      simpa using h4
/-- slices.SortFunc with a comparison that has captured something. -/
theorem sort_cv {α : Type} [Inhabited α] {P : Program} {ρ : Go.Shelf.Ren} (L : SlLaysF0.n6 P ρ) (k : Nat) (hk0 : 0 < k) (aE : ∀ w, (isAgg (ρ.t 24)).run P w = .ok true w) (zE : ∀ w, (sizeOf (ρ.t 24)).run P w = .ok k w) (enc : α → List Value) (hk : ∀ x, (enc x).length = k) (h1 : ∀ x, ∀ v ∈ enc x, v.oneCell' = true)
    (cf : α → α → Int) (hO : Go.Sort.SWO (ltOf cf)) (g : Nat) (eg : Own P g) (cb : List Value) (e : TypeId) (base : Nat) (ao : Option Addr) (gb cap : Nat) (xs : List α) (w : World) (hcmp : 0 < xs.length → ∀ W, Upd (· = gb) w W → ∀ x y, CallsV P g ([.agg (enc x).toArray, .agg (enc y).toArray] ++ cb) W fun v w' => (v = .int .i64 (cf x y) ∧ Gr W w') ∧ Ext W w') (ha : Acc enc k e base w ao gb cap xs) (hlen : xs.length ≤ 1000000) :
    CallsV P (ρ.f 6) [.slice ao xs.length cap, .func (.func g) #[] cb.toArray] w fun v w' => ∃ ys, List.Perm ys xs ∧ Asc cf ys ∧ Acc enc k e base w' ao gb cap ys ∧ Upd (fun i => i = gb ∧ base ≤ i) w w' ∧ v = .tuple #[] :=
  sort_cc L k hk0 aE zE enc hk h1 cf hO g eg cb e base ao gb cap xs w (fun h0 W u x y => by
    have h := hcmp h0 W u x y
    unfold CallsV at h
    have e : ([Value.agg (enc x).toArray, Value.agg (enc y).toArray] ++ cb).toArray = (#[Value.agg (enc x).toArray, Value.agg (enc y).toArray] ++ cb.toArray : Array Value) := by simp
    rw [e] at h
    refine Calls.mono h ?_
    rintro e w' ⟨v, rfl, ⟨rfl, hG⟩, _⟩
    exact ⟨rfl, hG.grow⟩) ha hlen
end Go.Proofs.YtgoajalaomakpaaGreat
namespace Go.Proofs
open Go.Shelf
def YtgoajalaomakpaaGreat.sortB_ren : Go.Shelf.Ren := ⟨fun | 6 => 95 | 15 => 127 | 14 => 126 | 28 => 144 | 29 => 145 | 20 => 136 | 21 => 137 | 22 => 138 | 23 => 139 | 24 => 140 | 25 => 141 | 26 => 142 | 27 => 143 | 46 => 163 | 47 => 164 | 48 => 165 | 49 => 166 | 50 => 167 | 57 => 175 | n => n, fun | 22 => 22 | 24 => 30 | 25 => 178 | 3 => 3 | 39 => 212 | 0 => 0 | 53 => 228 | 55 => 230 | 4 => 4 | 46 => 222 | 45 => 221 | 50 => 100 | 5 => 5 | 9 => 9 | 66 => 241 | 70 => 245 | 76 => 251 | 77 => 252 | n => n, fun | n => n⟩
theorem YtgoajalaomakpaaGreat.sortB : Go.Proofs.SlLaysF0.n6 Tryz.prog YtgoajalaomakpaaGreat.sortB_ren := {
  mixed := by kernel_rfl
  f6 := ⟨Tryz.f95.name, by decide, Tryz.func95.trans (congrArg some (by kernel_rfl))⟩
  f14 := ⟨Tryz.f126.name, by decide, Tryz.func126.trans (congrArg some (by kernel_rfl))⟩
  f15 := Tryz.func127.trans (congrArg some (by kernel_rfl))
  f20 := ⟨Tryz.f136.name, by decide, Tryz.func136.trans (congrArg some (by kernel_rfl))⟩
  f21 := ⟨Tryz.f137.name, by decide, Tryz.func137.trans (congrArg some (by kernel_rfl))⟩
  f22 := ⟨Tryz.f138.name, by decide, Tryz.func138.trans (congrArg some (by kernel_rfl))⟩
  f23 := ⟨Tryz.f139.name, by decide, Tryz.func139.trans (congrArg some (by kernel_rfl))⟩
  f24 := ⟨Tryz.f140.name, by decide, Tryz.func140.trans (congrArg some (by kernel_rfl))⟩
  f25 := ⟨Tryz.f141.name, by decide, Tryz.func141.trans (congrArg some (by kernel_rfl))⟩
  f26 := ⟨Tryz.f142.name, by decide, Tryz.func142.trans (congrArg some (by kernel_rfl))⟩
  f27 := ⟨Tryz.f143.name, by decide, Tryz.func143.trans (congrArg some (by kernel_rfl))⟩
  f28 := Tryz.func144.trans (congrArg some (by kernel_rfl))
  f29 := Tryz.func145.trans (congrArg some (by kernel_rfl))
  f46 := ⟨Tryz.f163.name, by decide, Tryz.func163.trans (congrArg some (by kernel_rfl))⟩
  f47 := Tryz.func164.trans (congrArg some (by kernel_rfl))
  f48 := Tryz.func165.trans (congrArg some (by kernel_rfl))
  f49 := ⟨Tryz.f166.name, by decide, Tryz.func166.trans (congrArg some (by kernel_rfl))⟩
  f50 := ⟨Tryz.f167.name, by decide, Tryz.func167.trans (congrArg some (by kernel_rfl))⟩
  f57 := ⟨Tryz.f175.name, by decide, Tryz.func175.trans (congrArg some (by kernel_rfl))⟩
  t0 := Tryz.underlying0
  a0 := Tryz.isAgg0
  z0 := Tryz.sizeOf0
  v0 := Tryz.zeroValue0
  t3 := Tryz.underlying3
  a3 := Tryz.isAgg3
  z3 := Tryz.sizeOf3
  v3 := Tryz.zeroValue3
  t4 := Tryz.underlying4
  a4 := Tryz.isAgg4
  z4 := Tryz.sizeOf4
  v4 := Tryz.zeroValue4
  t5 := Tryz.underlying5
  a5 := Tryz.isAgg5
  z5 := Tryz.sizeOf5
  v5 := Tryz.zeroValue5
  t9 := Tryz.underlying9
  a9 := Tryz.isAgg9
  z9 := Tryz.sizeOf9
  v9 := Tryz.zeroValue9
  t22 := Tryz.underlying22
  a22 := Tryz.isAgg22
  z22 := Tryz.sizeOf22
  v22 := Tryz.zeroValue22
  t25 := Tryz.underlying178
  a25 := Tryz.isAgg178
  z25 := Tryz.sizeOf178
  v25 := Tryz.zeroValue178
  t39 := Tryz.underlying212
  a39 := Tryz.isAgg212
  z39 := Tryz.sizeOf212
  v39 := Tryz.zeroValue212
  t45 := Tryz.underlying221
  a45 := Tryz.isAgg221
  z45 := Tryz.sizeOf221
  v45 := Tryz.zeroValue221
  t46 := Tryz.underlying222
  a46 := Tryz.isAgg222
  z46 := Tryz.sizeOf222
  v46 := Tryz.zeroValue222
  t50 := Tryz.underlying100
  a50 := Tryz.isAgg100
  z50 := Tryz.sizeOf100
  v50 := Tryz.zeroValue100
  t53 := Tryz.underlying228
  a53 := Tryz.isAgg228
  z53 := Tryz.sizeOf228
  v53 := Tryz.zeroValue228
  t55 := Tryz.underlying230
  a55 := Tryz.isAgg230
  z55 := Tryz.sizeOf230
  v55 := Tryz.zeroValue230
  t66 := Tryz.underlying241
  a66 := Tryz.isAgg241
  z66 := Tryz.sizeOf241
  v66 := Tryz.zeroValue241
  t70 := Tryz.underlying245
  a70 := Tryz.isAgg245
  z70 := Tryz.sizeOf245
  v70 := Tryz.zeroValue245
  t76 := Tryz.underlying251
  a76 := Tryz.isAgg251
  z76 := Tryz.sizeOf251
  v76 := Tryz.zeroValue251
  t77 := Tryz.underlying252
  a77 := Tryz.isAgg252
  z77 := Tryz.sizeOf252
  v77 := Tryz.zeroValue252 }
end Go.Proofs
