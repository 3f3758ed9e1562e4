/-
  Part 17 of the proof: contracts and plain laws. Conditions: none.
-/
import Derived.Test.YtgoajalaomakpaaGreatEK16
namespace Go.Proofs.YtgoajalaomakpaaGreat
open Go Go.RowKit Go.Proofs.Tryz

structure T3 where
  a : Int
  b : Int
  c : Int
instance : Inhabited T3 := ⟨⟨default, default, default⟩⟩
def okT3 (u : T3) : Prop := (0 ≤ u.a ∧ u.a ≤ 255) ∧ (0 ≤ u.b ∧ u.b ≤ 255) ∧ (0 ≤ u.c ∧ u.c ≤ 255)
def encT3 (x : T3) : List Value := [.int .u8 x.a, .int .u8 x.b, .int .u8 x.c]
def odK (x : T3) (i : Nat) : Bid := ⟨3 * (i : Int) + x.c % 3, 1 + x.a, x.b, x.c % 5⟩
def odL (xs : List T3) : Nat → List Bid
  | 0 => []
  | k + 1 => odL xs k ++ [odK (nth xs k) k]
theorem odL_len (xs : List T3) : ∀ k, (odL xs k).length = k
  | 0 => rfl
  | k + 1 => by rw [odL, List.length_append, odL_len xs k]; rfl
theorem odL_ok {xs : List T3} (h : ∀ x ∈ xs, okT3 x) : ∀ {k : Nat}, k ≤ xs.length → k ≤ 20 → (∀ x ∈ odL xs k, okBid x = true ∧ x.p < 3 * (k : Int)) ∧ ((odL xs k).map Bid.p).Nodup
  | 0, _, _ => ⟨fun x hx => (by cases hx), List.nodup_nil⟩
  | k + 1, h1, h2 => by
    obtain ⟨i1, i2⟩ := odL_ok h (k := k) (by omega) (by omega)
    have hx := h _ (nth_mem (xs := xs) (i := k) (by omega))
    unfold okT3 at hx
    constructor
    · intro x hm
      rcases List.mem_append.1 hm with q | q
      · have := i1 x q
        exact ⟨this.1, by omega⟩
      · rw [List.mem_singleton.1 q]
        refine ⟨?_, ?_⟩
        · unfold okBid odK; rw [decide_eq_true_eq]; dsimp only; omega
        · unfold odK; dsimp only; omega
    · rw [odL, List.map_append, List.nodup_append]
      refine ⟨i2, by simp, fun a ha b hb => ?_⟩
      obtain ⟨x, q, rfl⟩ := List.mem_map.1 ha
      have := (i1 x q).2
      simp only [List.map_cons, List.map_nil, List.mem_singleton] at hb
      rw [hb]
      unfold odK
      dsimp only
      omega
/-- What the parties have traded, as a table. -/
def arrP (f : Trd → Int) (ts : List Trd) : List Int := (List.range 100).map fun q : Nat => byP f ts (q : Int)
theorem arrP_len (f : Trd → Int) (ts : List Trd) : (arrP f ts).length = 100 := by simp [arrP]
theorem arrP_nth {f : Trd → Int} {ts : List Trd} {q : Int} (h : 0 ≤ q ∧ q ≤ 99) : nth (arrP f ts) q.toNat = byP f ts q := by
  rw [nth_eq (by rw [arrP_len]; omega)]
  simp only [arrP, List.getElem_map, List.getElem_range]
  rw [Int.toNat_of_nonneg h.1]
theorem arrP_zero (f : Trd → Int) (ts : List Trd) : arrP f (ts.take 0) = List.replicate 100 0 := by
  rw [List.take_zero, arrP, List.eq_replicate_iff]
  exact ⟨by simp, fun x hx => by obtain ⟨q, _, rfl⟩ := List.mem_map.1 hx; rfl⟩
theorem arrP_step {f : Trd → Int} {ts : List Trd} {k : Nat} (hk : k < ts.length) (h : 0 ≤ f (nth ts k) ∧ f (nth ts k) ≤ 99) : arrP f (ts.take (k + 1)) = (arrP f (ts.take k)).set (f (nth ts k)).toNat (nth (arrP f (ts.take k)) (f (nth ts k)).toNat + (nth ts k).n) := by
  rw [arrP_nth h, take_nth hk]
  refine List.ext_getElem (by simp [arrP]) fun q h1 h2 => ?_
  rw [List.getElem_set]
  simp only [arrP, List.getElem_map, List.getElem_range, byP_app, byP_one]
  by_cases e : (f (nth ts k)).toNat = q
  · rw [if_pos e, if_pos (by omega), ← e, Int.toNat_of_nonneg h.1]
  · rw [if_neg e, if_neg (by omega), Int.add_zero]
theorem turn_take {ts : List Trd} {k : Nat} (hk : k < ts.length) : turn (ts.take (k + 1)) = turn (ts.take k) + (nth ts k).n := by
  rw [take_nth hk, turn_app]; simp [turn]
theorem turn_bd : ∀ {ts : List Trd}, (∀ t ∈ ts, 1 ≤ t.n ∧ t.n ≤ 1000000) → 0 ≤ turn ts ∧ turn ts ≤ 1000000 * (ts.length : Int)
  | [], _ => ⟨Int.le_refl _, Int.le_refl _⟩
  | t :: ts, h => by
    have h1 := turn_bd (ts := ts) fun x hx => h x (List.mem_cons_of_mem _ hx)
    have h2 := h t List.mem_cons_self
    simp only [turn, List.length_cons]
    omega
theorem Clear.bd {lb la : List Bid} {p e : Int} {ts : List Trd} (h : Clear lb la p ts e) (k : Nat) : (0 ≤ turn (ts.take k) ∧ turn (ts.take k) ≤ 61000000) ∧ (∀ f q, 0 ≤ byP f (ts.take k) q ∧ byP f (ts.take k) q ≤ 61000000) := by
  have h1 : ∀ t ∈ ts.take k, 1 ≤ t.n ∧ t.n ≤ 1000000 := fun t ht => (h.ok t (List.mem_of_mem_take ht)).1
  have h2 := turn_bd h1
  have h3 : (ts.take k).length ≤ 61 := by rw [List.length_take]; have := h.len; omega
  refine ⟨by omega, fun f q => ?_⟩
  have := byP_nn (f := f) (q := q) (fun t ht => by have := h1 t ht; omega : ∀ t ∈ ts.take k, 0 ≤ t.n)
  omega
theorem rev_next {l : List Bid} {k : Nat} (h : k < l.length) : (l.take (k + 1)).reverse = [nth l k] ++ (l.take k).reverse := by
  rw [take_nth h, List.reverse_append]; rfl
theorem Clear.sums {lb la : List Bid} {p e : Int} {ts : List Trd} (h : Clear lb la p ts e) (f : Trd → Int) (l : List Bid) (k : Nat) (hs : sB (byP f ts) l = turn ts) : 0 ≤ sB (byP f ts) (l.take k) ∧ sB (byP f ts) (l.take k) ≤ turn ts := by
  have h1 : ∀ t ∈ ts, 0 ≤ t.n := fun t ht => by have := (h.ok t ht).1; omega
  have h2 := sB_nn (f := f) h1 (l.take k)
  have h3 := sB_nn (f := f) h1 (l.drop k)
  have h4 := sB_app (byP f ts) (l.take k) (l.drop k)
  rw [List.take_append_drop, hs] at h4
  omega
theorem orders_c (xs : List T3) (ax : Option Addr) (bx ox cx : Nat) (w0 : World) (hx : Sl encT3 3 w0 ax bx ox xs) (hxl : xs.length ≤ 9223372036854775807) (hxs : ∀ x ∈ xs, okT3 x) :
    CallsV Tryz.prog 31 [.slice ax xs.length cx] w0 (fun v w' => (∃ l ao g cp, v = .slice ao (List.length l) cp ∧ Sl encBid 4 w' ao g 0 l ∧ (0 < l.length → w0.heap.size ≤ g) ∧ w0.heap.size < w'.heap.size ∧ l.length ≤ 20 ∧ (∀ x ∈ l, okBid x = true) ∧ (l.map Bid.p).Nodup) ∧ Ext w0 w') := by
 refine f_n func31 ?_
 refine go ?_
 refine x_l fun bk3 w4 ebk3 sbk3 B5 u6 => ?_
 refine go ?_
 refine x_l4 (fun i => bk3 ≤ i) [0] (fun (k : Nat) (ao : Option Addr) (gw : Nat) (co : Nat) => [(3, .slice ao ((odL xs k).length) co), (4, .int .i64 (k : Int))]) (fun k ao gw co w => (k ≤ xs.length ∧ k ≤ 20) ∧ (Acc encBid 4 30 bk3 w ao gw co (odL xs k))) (fun k ao gw co => 20 - k) 0 (some ⟨bk3, 0, none⟩) bk3 0 ⟨(by omega), (Acc.ofBlk (xs := ([] : List Bid)) encBid 4 (fun _ => rfl) B5 (Nat.le_refl _) (by decide))⟩ ?_
 rintro k ao gw co w11 ⟨hk, hout⟩ u12 zu12 K10 hK10
 have lt_gw := hout.lt
 have hol : (odL xs k).length = k := odL_len xs k
 refine st1 ?_
 refine x_k1 (fun _ => False) [0, 3, 4] (fun (qa : Bool) => [(13, .bool qa)]) (fun qa w => (qa = true ↔ (k < xs.length ∧ k < 20))) (fun K19 hK19 => ?_) ?_
 ·
  refine go ?_
  refine t_splitp 10 rfl (fun g10 => ?_) (fun g10 => ?_)
  ·
   refine go ?_
   exact hK19 (decide ((k : Int) < 20)) (by rw [decide_eq_true_eq]; omega)
  refine go ?_
  exact hK19 false (⟨fun h => (by cases h), fun h => absurd h (by omega)⟩)
 rintro qa w20 hqa u21 zu21
 refine q_b (fun g13 => ?_) fun g13 => ?_
 ·
  have hqa9 := hqa.1 g13
  have hp9 := hx.lt (by omega)
  have hx9 := hxs _ (nth_mem (xs := xs) (i := k) (by omega))
  unfold okT3 at hx9
  refine go ?_
  refine c_drawnM follows (fun i => (i = gw ∧ bk3 ≤ i)) (OTl [0, 2, 4, 6, 8, 10, 12, 14, 16, 18, 20, 22, 24, 26, 28, 30, 32, 34, 36, 38, 40, 42, 44, 46, 48, 50, 52, 54, 56, 58, 60, 62, 65, 67, 68]) (by kernel_rfl) fun w24 u25 => ?_
  have zu25 := u25.size
  have E26 := Sc.mk (((((Upd.refl (fun _ => False) w0).nx u6).next u12 (fun i hi (h : bk3 ≤ i) => show False by first | omega | assumption)).nx u21).nx u25)
  refine go ?_
  refine y_i k (hx.keep E26.u (fun _ h => h)) (fun _ => ?_)
  refine y_indexArr (j := 2) (ox + k * 3 + 2) underlying64 sizeOf5 rfl rfl rfl rfl rfl (by decide) rfl ?_
  refine go ?_
  refine y_conv underlying5 underlying3 rfl rfl rfl (IntWalk.i64_in _ (by omega)) (y_rem rfl rfl rfl rfl (by omega) (by omega) ?_)
  refine go ?_
  refine y_i k (hx.keep E26.u (fun _ h => h)) (fun _ => ?_)
  refine y_indexArr (j := 0) (ox + k * 3 + 0) underlying64 sizeOf5 rfl rfl rfl rfl rfl (by decide) rfl ?_
  refine go ?_
  refine y_conv underlying5 underlying3 rfl rfl rfl (IntWalk.i64_in _ (by omega)) ?_
  refine go ?_
  refine y_i k (hx.keep E26.u (fun _ h => h)) (fun _ => ?_)
  refine y_indexArr (j := 1) (ox + k * 3 + 1) underlying64 sizeOf5 rfl rfl rfl rfl rfl (by decide) rfl ?_
  refine go ?_
  refine y_conv underlying5 underlying3 rfl rfl rfl (IntWalk.i64_in _ (by omega)) ?_
  refine go ?_
  refine y_i k (hx.keep E26.u (fun _ h => h)) (fun _ => ?_)
  refine y_indexArr (j := 2) (ox + k * 3 + 2) underlying64 sizeOf5 rfl rfl rfl rfl rfl (by decide) rfl ?_
  refine go ?_
  refine y_conv underlying5 underlying3 rfl rfl rfl (IntWalk.i64_in _ (by omega)) (y_rem rfl rfl rfl rfl (by omega) (by omega) ?_)
  refine go ?_
  refine x_l fun bk31 w32 ebk31 sbk31 B33 u34 => ?_
  refine go ?_
  have D36 := (((hout.keep u21 (fun _ h => h)).keep u25 (fun _ h => h)).keep u34 (fun _ h => h))
  refine t_append (z := .agg #[.int .i64 0, .int .i64 0, .int .i64 0, .int .i64 0]) (bytes := 32) (k := 4) (base := bk3) (odK (nth xs k) k) underlying22 (by kernel_rfl) rfl (by decide) (fun _ => rfl) (by intro x; simp [encBid, Value.oneCell']) rfl rfl rfl rfl D36 B33 (by omega) (by omega) (by decide) (fun ao37 gb38 cp39 w40 A41 u42 gegb38 lngb38 => ?_)
  have zu42 := u42.size
  have lt_gb38 := A41.lt
  refine go ?_
  exact hK10 (k + 1) ao37 gb38 cp39 ⟨(by omega), A41⟩ (hu := ((((u12.nx u21).nx u25).nx u34).next u42 (fun i hi (h : (i = gw ∧ bk3 ≤ i)) => show bk3 ≤ i by first | omega | assumption)))
 obtain ⟨hok1, hok2⟩ := odL_ok hxs (k := k) (by omega) (by omega)
 refine go ?_
 refine f_1 results31 ?_
 have D45 := (hout.keep u21 (fun _ h => h))
 exact ⟨⟨_, _, _, _, rfl, D45.sl (fun _ => rfl), fun h9 => by have := D45.ge h9; omega, by omega, by omega, fun x hx => (hok1 x hx).1, hok2⟩, u_d⟩

set_option maxHeartbeats 4000000 in
theorem FreightClears_c (xb : List T3) (ab : Option Addr) (bxb oxb cb : Nat) (xa : List T3) (aa : Option Addr) (bxa oxa ca : Nat) (p : Int) (w0 : World) (hxbs : Sl encT3 3 w0 ab bxb oxb xb) (hxbl : xb.length ≤ 9223372036854775807) (hxb : ∀ x ∈ xb, okT3 x) (hxas : Sl encT3 3 w0 aa bxa oxa xa) (hxal : xa.length ≤ 9223372036854775807) (hxa : ∀ x ∈ xa, okT3 x) (hp : 0 ≤ p ∧ p ≤ 255) :
    CallsV Tryz.prog 7 [.slice ab xb.length cb, .slice aa xa.length ca, .int .u8 p] w0 (fun v w' => v = .bool true ∧ Ext w0 w') := by
 refine f_n func7 ?_
 refine go ?_
 refine x_c func31 rfl rfl (orders_c xb ab bxb oxb cb _ hxbs (by omega) hxb) ?_
 rintro _ w4 ⟨⟨lb, alb, glb, clb, rfl, hlb, hglb, hzlb, hnlb, hoklb, hndlb⟩, u5⟩ zu5
 have hllb := hlb.lt
 refine go ?_
 refine x_c func31 rfl rfl (orders_c xa aa bxa oxa ca _ (hxas.keep ((Upd.refl (fun _ => False) w0).nx u5) (fun _ h => h)) (by omega) hxa) ?_
 rintro _ w9 ⟨⟨la, ala, gla, cla, rfl, hla, hgla, hzla, hnla, hokla, hndla⟩, u10⟩ zu10
 have hlla := hla.lt
 refine go ?_
 have D14 := (hlb.keep u10 (fun _ h => h))
 refine x_c func12 rfl rfl (bids0_c lb alb glb 0 clb _ D14 (by omega)) ?_
 rintro _ w17 ⟨⟨aoP15, gP15, cP15, rfl, hP15, hgP15, hzP15⟩, u18⟩ zu18
 have hlP15 := hP15.lt
 refine go ?_
 have D21 := (hla.keep u18 (fun _ h => h))
 refine x_c func12 rfl rfl (bids0_c la ala gla 0 cla _ D21 (by omega)) ?_
 rintro _ w24 ⟨⟨aoP22, gP22, cP22, rfl, hP22, hgP22, hzP22⟩, u25⟩ zu25
 have hlP22 := hP22.lt
 have D28 := (hP15.keep u25 (fun _ h => h))
 refine x_c func13 rfl rfl (Match_c lb aoP15 gP15 0 cP15 la aoP22 gP22 0 cP22 _ D28 (by omega) hP22 (by omega) (by omega)) ?_
 rintro _ w30 ⟨⟨pm, tm, am, gm, cm, em, rfl, hAm, hRm⟩, u31⟩ zu31
 have htlm := hRm.len
 have hSm : Sl encTrd 3 w30 am gm 0 tm := hAm.sl (fun _ => rfl)
 have hltm := hSm.lt
 have hgem := hAm.ge
 have hC := hRm.clear (fun x hx => (List.mem_append.1 hx).elim (hoklb x) (hokla x)) hndlb hndla hnlb hnla
 refine go ?_
 refine x_l fun bk35 w36 ebk35 sbk35 B37 u38 => ?_
 refine x_l fun bk40 w41 ebk40 sbk40 B42 u43 => ?_
 refine go ?_
 refine x_l5 (fun _ => False) [2, 7, 8, 9, 10, 11, 13] (fun (i1 : Nat) (avlb : Option Addr) (gvlb : Nat) (ovlb : Nat) (cvlb : Nat) => [(12, .slice avlb (((lb.take i1).reverse).length) cvlb), (14, .int .i64 (i1 : Int))]) (fun i1 avlb gvlb ovlb cvlb w => (i1 ≤ lb.length) ∧ (Sl encBid 4 w avlb gvlb ovlb ((lb.take i1).reverse))) (fun i1 avlb gvlb ovlb cvlb => lb.length - i1) 0 (some ⟨bk35, 0, none⟩) bk35 0 0 ⟨(Nat.zero_le _), (Sl.nil _ _ _ _ _ _)⟩ ?_
 rintro i1 avlb gvlb ovlb cvlb w48 ⟨hi1, hrvlb⟩ u49 zu49 K47 hK47
 have hlvlb := hrvlb.lt
 refine go ?_
 refine q_p (fun g49 => ?_) fun g49 => ?_
 ·
  have hp9 := hllb (by omega)
  have hstlb := rev_next (l := lb) (k := i1) (by omega)
  refine go ?_
  have D54 := ((((((D14.keep u18 (fun _ h => h)).keep u25 (fun _ h => h)).keep u31 (fun _ h => h)).keep u38 (fun _ h => h)).keep u43 (fun _ h => h)).keep u49 (fun _ h => h))
  refine g_i i1 D54 (fun _ => ?_)
  refine go ?_
  refine x_l fun bk56 w57 ebk56 sbk56 B58 u59 => ?_
  refine go ?_
  have D61 := (hrvlb.keep u59 (fun _ h => h))
  refine t_appLit (enc := encBid) (z := .agg #[.int .i64 0, .int .i64 0, .int .i64 0, .int .i64 0]) (bytes := 32) (k := 4) (xs := [nth lb i1]) (ys := ((lb.take i1).reverse)) underlying22 (by kernel_rfl) rfl (by decide) (fun _ => rfl) (by intro x; simp [encBid, Value.oneCell']) rfl rfl rfl rfl B58 D61 (by first | decide | simp) (by rw [List.length_reverse, List.length_take]; omega) (by decide) (fun ao62 gb63 cp64 w65 A66 u67 gegb63 => ?_)
  have zu67 := u67.size
  have lt_gb63 := A66.lt
  refine go ?_
  exact hK47 (i1 + 1) ao62 gb63 0 cp64 ⟨(by omega), (by rw [hstlb]; exact (A66.sl (fun _ => rfl)))⟩ (hs := by exact ⟨(by rw [hstlb]; rfl), rfl, rfl, rfl, rfl, rfl, rfl, rfl, rfl, trivial⟩)
 refine go ?_
 refine x_l5 (fun _ => False) [2, 7, 8, 9, 10, 11, 12] (fun (i2 : Nat) (avla : Option Addr) (gvla : Nat) (ovla : Nat) (cvla : Nat) => [(13, .slice avla (((la.take i2).reverse).length) cvla), (15, .int .i64 (i2 : Int))]) (fun i2 avla gvla ovla cvla w => (i2 ≤ la.length) ∧ (Sl encBid 4 w avla gvla ovla ((la.take i2).reverse))) (fun i2 avla gvla ovla cvla => la.length - i2) 0 (some ⟨bk40, 0, none⟩) bk40 0 0 ⟨(Nat.zero_le _), (Sl.nil _ _ _ _ _ _)⟩ ?_
 rintro i2 avla gvla ovla cvla w72 ⟨hi2, hrvla⟩ u73 zu73 K71 hK71
 have hlvla := hrvla.lt
 refine go ?_
 refine q_p (fun g62 => ?_) fun g62 => ?_
 ·
  have hp9 := hlla (by omega)
  have hstla := rev_next (l := la) (k := i2) (by omega)
  refine go ?_
  have D78 := ((((((D21.keep u25 (fun _ h => h)).keep u31 (fun _ h => h)).keep u38 (fun _ h => h)).keep u43 (fun _ h => h)).keep u49 (fun _ h => h)).keep u73 (fun _ h => h))
  refine g_i i2 D78 (fun _ => ?_)
  refine go ?_
  refine x_l fun bk80 w81 ebk80 sbk80 B82 u83 => ?_
  refine go ?_
  have D85 := (hrvla.keep u83 (fun _ h => h))
  refine t_appLit (enc := encBid) (z := .agg #[.int .i64 0, .int .i64 0, .int .i64 0, .int .i64 0]) (bytes := 32) (k := 4) (xs := [nth la i2]) (ys := ((la.take i2).reverse)) underlying22 (by kernel_rfl) rfl (by decide) (fun _ => rfl) (by intro x; simp [encBid, Value.oneCell']) rfl rfl rfl rfl B82 D85 (by first | decide | simp) (by rw [List.length_reverse, List.length_take]; omega) (by decide) (fun ao86 gb87 cp88 w89 A90 u91 gegb87 => ?_)
  have zu91 := u91.size
  have lt_gb87 := A90.lt
  refine go ?_
  exact hK71 (i2 + 1) ao86 gb87 0 cp88 ⟨(by omega), (by rw [hstla]; exact (A90.sl (fun _ => rfl)))⟩ (hs := by exact ⟨(by rw [hstla]; rfl), rfl, rfl, rfl, rfl, rfl, rfl, rfl, rfl, trivial⟩)
 refine go ?_
 have D94 := (hrvlb.keep u73 (fun _ h => h))
 refine x_c func13 rfl rfl (Match_c ((lb.take i1).reverse) avlb gvlb ovlb cvlb ((la.take i2).reverse) avla gvla ovla cvla _ D94 (by rw [List.length_reverse, List.length_take]; omega) hrvla (by rw [List.length_reverse, List.length_take]; omega) (by omega)) ?_
 rintro _ w96 ⟨⟨pr, tr, ar, gr, cr, er, rfl, hAr, hRr⟩, u97⟩ zu97
 have htlr := hRr.len
 have hSr : Sl encTrd 3 w96 ar gr 0 tr := hAr.sl (fun _ => rfl)
 have hltr := hSr.lt
 have hger := hAr.ge
 have hRs : MtR lb la pr tr er := hRr.perm (by rw [List.take_of_length_le (by omega)]; exact List.reverse_perm lb) (by rw [List.take_of_length_le (by omega)]; exact List.reverse_perm la)
 obtain ⟨hup, hut, hue⟩ := hRm.uniq hRs
 have hutl : tm.length = tr.length := by rw [hut]
 iterate 15 refine st1 ?_
 refine t_same 81 (v := .bool false) rfl (by rw [decide_eq_false (fun h => h hue)]) ?_
 iterate 4 refine st1 ?_
 refine t_same 85 (v := .bool false) rfl (by rw [decide_eq_false (fun h => h hup)]) ?_
 iterate 7 refine st1 ?_
 refine t_same 92 (v := .bool false) rfl (by rw [decide_eq_false (fun h => h (by rw [hutl]))]) ?_
 refine go ?_
 refine t_build (ps := []) (v := .agg ((List.replicate 100 (0 : Int)).map (Value.int .i64)).toArray) rfl rfl ⟨rfl, rfl⟩ (fun w => by kernel_rfl) (t_build (ps := []) (v := .agg ((List.replicate 100 (0 : Int)).map (Value.int .i64)).toArray) rfl rfl ⟨rfl, rfl⟩ (fun w => by kernel_rfl) (t_alloc (cs := ((List.replicate 100 (0 : Int)).map (Value.int .i64))) zeroValue63 (by kernel_rfl) rfl rfl (fun bk103 w104 ebk103 sbk103 B105 u106 => ?_)))
 refine t_alloc (cs := ((List.replicate 100 (0 : Int)).map (Value.int .i64))) zeroValue63 (by kernel_rfl) rfl rfl (fun bk108 w109 ebk108 sbk108 B110 u111 => ?_)
 have B113 := (B105.kx u111)
 refine t_st (vs := ((List.replicate 100 (0 : Int)).map (Value.int .i64))) sizeOf63 rfl rfl rfl B113 rfl (by kernel_rfl) (by kernel_rfl) (by kernel_rfl) (fun w114 sw114 B116 u115 => ?_)
 have B118 : Blk w114 bk103 63 ((List.replicate 100 (0 : Int)).map (Value.int .i64)) := by
   have e : lay ((List.replicate 100 (0 : Int)).map (Value.int .i64)) 0 ((List.replicate 100 (0 : Int)).map (Value.int .i64)) = ((List.replicate 100 (0 : Int)).map (Value.int .i64)) := by kernel_rfl
   rw [← e]; exact B116
 have B119 := (B110.keep u115 (by omega))
 refine t_st (vs := ((List.replicate 100 (0 : Int)).map (Value.int .i64))) sizeOf63 rfl rfl rfl B119 rfl (by kernel_rfl) (by kernel_rfl) (by kernel_rfl) (fun w120 sw120 B122 u121 => ?_)
 have B124 : Blk w120 bk108 63 ((List.replicate 100 (0 : Int)).map (Value.int .i64)) := by
   have e : lay ((List.replicate 100 (0 : Int)).map (Value.int .i64)) 0 ((List.replicate 100 (0 : Int)).map (Value.int .i64)) = ((List.replicate 100 (0 : Int)).map (Value.int .i64)) := by kernel_rfl
   rw [← e]; exact B122
 refine go ?_
 have B127 := (B118.keep u121 (by omega))
 have B128 : Blk w120 bk103 63 ((arrP Trd.b (tm.take 0)).map (Value.int .i64)) := by
   have e : (((List.replicate 100 (0 : Int)).map (Value.int .i64)) : List Value) = ((arrP Trd.b (tm.take 0)).map (Value.int .i64)) := (by rw [arrP_zero])
   rw [← e]; exact B127
 have B129 : Blk w120 bk108 63 ((arrP Trd.s (tm.take 0)).map (Value.int .i64)) := by
   have e : (((List.replicate 100 (0 : Int)).map (Value.int .i64)) : List Value) = ((arrP Trd.s (tm.take 0)).map (Value.int .i64)) := (by rw [arrP_zero])
   rw [← e]; exact B124
 refine x_l1 (fun i => i = bk103 ∨ i = bk108) [2, 7, 8, 9, 10, 11, 17, 19, 20] (fun (k : Nat) => [(21, .int .i64 (turn (tm.take k))), (22, .int .i64 (k : Int))]) (fun k w => Blk w bk103 63 ((arrP Trd.b (tm.take k)).map (Value.int .i64)) ∧ Blk w bk108 63 ((arrP Trd.s (tm.take k)).map (Value.int .i64)) ∧ (k ≤ tm.length)) (fun k => tm.length - k) 0 ⟨B128, B129, (Nat.zero_le _)⟩ ?_
 rintro k w131 ⟨I133, I134, hk⟩ u132 zu132 K130 hK130
 refine go ?_
 refine q_p (fun g99 => ?_) fun g99 => ?_
 ·
  have hp9 := hltm (by omega)
  have hp8 := hltr (by omega)
  have hk9 := hC.ok _ (nth_mem (xs := tm) (i := k) (by omega))
  obtain ⟨hbd1, hbd2⟩ := hC.bd k
  have hbd3 := hbd2 Trd.b (nth tm k).b
  have hbd4 := hbd2 Trd.s (nth tm k).s
  have hn3 := arrP_nth (f := Trd.b) (ts := (tm.take k)) (q := (nth tm k).b) (by omega)
  have hn4 := arrP_nth (f := Trd.s) (ts := (tm.take k)) (q := (nth tm k).s) (by omega)
  have hends := And.intro (arrP_step (f := Trd.b) (ts := tm) (k := k) (by omega) hk9.2.1) (arrP_step (f := Trd.s) (ts := tm) (k := k) (by omega) hk9.2.2)
  have hle3 := arrP_len Trd.b (tm.take k)
  have hle4 := arrP_len Trd.s (tm.take k)
  refine go ?_
  have D140 := ((((((((((hSm.keep u38 (fun _ h => h)).keep u43 (fun _ h => h)).keep u49 (fun _ h => h)).keep u73 (fun _ h => h)).keep u97 (fun _ h => h)).keep u106 (fun _ h => h)).keep u111 (fun _ h => h)).keep u115 (fun h9 => show ¬ (gm = bk103) by have := hltm h9; omega)).keep u121 (fun h9 => show ¬ (gm = bk108) by have := hltm h9; omega)).keep u132 (fun h9 => show ¬ (gm = bk103 ∨ gm = bk108) by have := hltm h9; omega))
  refine g_i k D140 (fun _ => ?_)
  refine go ?_
  refine x_n fun bk142 w143 ebk142 sbk142 B144 u145 => ?_
  refine x_s fun w147 sw147 B149 u148 => ?_
  refine go ?_
  refine c_drawnM follows (fun _ => False) (OTl [0, 2, 4, 6, 8, 10, 12, 14, 16, 18, 20, 22, 24, 26, 28, 30, 32, 34, 36, 38, 40, 42, 44, 46, 48, 50, 52, 54, 56, 58, 60]) (by kernel_rfl) fun w153 u154 => ?_
  have zu154 := u154.size
  refine go ?_
  have D156 := ((((((((hSr.keep u106 (fun _ h => h)).keep u111 (fun _ h => h)).keep u115 (fun h9 => show ¬ (gr = bk103) by have := hltr h9; omega)).keep u121 (fun h9 => show ¬ (gr = bk108) by have := hltr h9; omega)).keep u132 (fun h9 => show ¬ (gr = bk103 ∨ gr = bk108) by have := hltr h9; omega)).keep u145 (fun _ h => h)).keep u148 (fun h9 => show ¬ (gr = bk142) by have := hltr h9; omega)).keep u154 (fun _ h => h))
  refine y_i k D156 (fun _ => ?_)
  refine go ?_
  refine y_neS (xs := [.int .i64 ((nth tm k).b), .int .i64 ((nth tm k).s), .int .i64 ((nth tm k).n)]) (ys := [.int .i64 ((nth tr k).b), .int .i64 ((nth tr k).s), .int .i64 ((nth tr k).n)]) (by kernel_rfl) (eqIn32 9998 ((nth tm k).b) ((nth tm k).s) ((nth tm k).n) ((nth tr k).b) ((nth tr k).s) ((nth tr k).n)) rfl rfl rfl rfl (y_same 111 (v := .bool false) rfl (by rw [hut]; simp) ?_)
  iterate 4 refine st1 ?_
  refine y_same 115 (v := .bool false) rfl (congrArg Value.bool (decide_eq_false (by omega))) ?_
  iterate 5 refine st1 ?_
  refine y_same 120 (v := .bool false) rfl (congrArg Value.bool (decide_eq_false (by omega))) ?_
  iterate 5 refine st1 ?_
  refine y_same 125 (v := .bool false) rfl (congrArg Value.bool (decide_eq_false (by omega))) ?_
  iterate 5 refine st1 ?_
  refine y_same 130 (v := .bool false) rfl (congrArg Value.bool (decide_eq_false (by omega))) ?_
  iterate 5 refine st1 ?_
  refine y_same 135 (v := .bool false) rfl (congrArg Value.bool (decide_eq_false (by omega))) ?_
  refine go ?_
  refine c_drawnM follows (fun i => i = bk103) (OTl [0, 2, 4, 8, 10, 7, 12, 14, 17]) (by kernel_rfl) fun w159 u160 => ?_
  have zu160 := u160.size
  refine go ?_
  refine y_indexArr (j := (nth tm k).b.toNat) (0 + ((nth tm k).b.toNat) * 1) underlying63 sizeOf3 rfl rfl rfl rfl (by omega) (by omega) rfl ?_
  refine go ?_
  have B162 := ((((I133.kx u145).keep u148 (by omega)).kx u154).kx u160)
  refine t_load isAgg3 rfl rfl rfl (((SlI.own B162).at_ ((nth tm k).b.toNat) (by omega)) 0 _ rfl) ?_
  refine go ?_
  refine y_indexArr (j := (nth tm k).b.toNat) (0 + ((nth tm k).b.toNat) * 1) underlying63 sizeOf3 rfl rfl rfl rfl (by omega) (by omega) rfl ?_
  refine go ?_
  refine t_storeI (ls := (arrP Trd.b (tm.take k))) (v := ((nth (arrP Trd.b (tm.take k)) ((nth tm k).b.toNat)) + ((nth tm k).n))) ((nth tm k).b.toNat) sizeOf3 rfl rfl rfl B162 (by omega) (fun w163 sw163 B165 u164 => ?_)
  refine go ?_
  refine c_drawnM follows (fun i => i = bk108) (OTl [0, 2, 4, 8, 10, 7, 12, 14, 17]) (by kernel_rfl) fun w168 u169 => ?_
  have zu169 := u169.size
  refine go ?_
  refine y_indexArr (j := (nth tm k).s.toNat) (0 + ((nth tm k).s.toNat) * 1) underlying63 sizeOf3 rfl rfl rfl rfl (by omega) (by omega) rfl ?_
  refine go ?_
  have B171 := ((((((I134.kx u145).keep u148 (by omega)).kx u154).kx u160).keep u164 (by omega)).kx u169)
  refine t_load isAgg3 rfl rfl rfl (((SlI.own B171).at_ ((nth tm k).s.toNat) (by omega)) 0 _ rfl) ?_
  refine go ?_
  refine y_indexArr (j := (nth tm k).s.toNat) (0 + ((nth tm k).s.toNat) * 1) underlying63 sizeOf3 rfl rfl rfl rfl (by omega) (by omega) rfl ?_
  refine go ?_
  refine t_storeI (ls := (arrP Trd.s (tm.take k))) (v := ((nth (arrP Trd.s (tm.take k)) ((nth tm k).s.toNat)) + ((nth tm k).n))) ((nth tm k).s.toNat) sizeOf3 rfl rfl rfl B171 (by omega) (fun w172 sw172 B174 u173 => ?_)
  refine go ?_
  have B176 := ((B165.kx u169).keep u173 (by omega))
  exact hK130 (k + 1) ⟨(by rw [hends.1]; exact B176), (by rw [hends.2]; exact B174), (by omega)⟩ (hs := by exact ⟨(congrArg (fun z => some (Value.int .i64 z)) (turn_take (by omega)).symm), rfl, rfl, rfl, rfl, rfl, rfl, rfl, rfl, rfl, rfl, trivial⟩)
 have htk : (tm.take k) = tm := List.take_of_length_le (by omega)
 have hT0 : turn (tm.take k) = turn tm - sB (byP Trd.b tm) (lb.take 0) := by rw [htk]; show turn tm = turn tm - 0; omega
 obtain ⟨hbt, hby⟩ := hC.bd k
 rw [htk] at hbt hby
 have hle3 := arrP_len Trd.b tm
 have hle4 := arrP_len Trd.s tm
 have B177 : Blk w131 bk103 63 ((arrP Trd.b tm).map (Value.int .i64)) := by
   have e : (((arrP Trd.b (tm.take k)).map (Value.int .i64)) : List Value) = ((arrP Trd.b tm).map (Value.int .i64)) := (by rw [htk])
   rw [← e]; exact I133
 have B178 : Blk w131 bk108 63 ((arrP Trd.s tm).map (Value.int .i64)) := by
   have e : (((arrP Trd.s (tm.take k)).map (Value.int .i64)) : List Value) = ((arrP Trd.s tm).map (Value.int .i64)) := (by rw [htk])
   rw [← e]; exact I134
 refine go ?_
 refine t_build (ps := []) (v := .agg #[.int .i64 0, .int .i64 0]) rfl rfl ⟨rfl, rfl⟩ (fun w => by kernel_rfl) ?_
 refine x_n fun bk180 w181 ebk180 sbk180 B182 u183 => ?_
 refine x_s fun w185 sw185 B187 u186 => ?_
 refine go ?_
 refine x_l1 (fun i => i = bk180) [2, 7, 8, 9, 10, 11, 19, 20, 24] (fun (i : Nat) => [(21, .int .i64 (turn tm - sB (byP Trd.b tm) (lb.take i))), (25, .int .i64 (i : Int))]) (fun i w => Blk w bk180 92 [.int .i64 (tonK (-1) p lb i), .int .i64 0] ∧ (i ≤ lb.length)) (fun i => lb.length - i) 0 ⟨B187, (Nat.zero_le _)⟩ ?_ (h0 := by exact ⟨(congrArg (fun z => some (Value.int .i64 z)) hT0), rfl, rfl, rfl, rfl, rfl, rfl, rfl, rfl, rfl, rfl, trivial⟩)
 rintro i w192 ⟨I194, hi⟩ u193 zu193 K191 hK191
 refine go ?_
 refine q_p (fun g161 => ?_) fun g161 => ?_
 ·
  have hp9 := hllb (by omega)
  have hm9 := nth_mem (xs := lb) (i := i) (by omega)
  have ho9 := okBid_ok (hoklb _ hm9)
  have hb1 := hC.b1 _ hm9
  have hby9 := hby Trd.b (nth lb i).p
  have hnn9 := arrP_nth (f := Trd.b) (ts := tm) (q := (nth lb i).p) ho9.1
  have hsu9 := hC.sums Trd.b lb i hC.sb
  have hsu8 := hC.sums Trd.b lb (i + 1) hC.sb
  have hto9 := tonK_bd (sg := (-1)) (p := p) hoklb (k := i) (by omega)
  refine go ?_
  have D200 := ((((((((((((((((D14.keep u18 (fun _ h => h)).keep u25 (fun _ h => h)).keep u31 (fun _ h => h)).keep u38 (fun _ h => h)).keep u43 (fun _ h => h)).keep u49 (fun _ h => h)).keep u73 (fun _ h => h)).keep u97 (fun _ h => h)).keep u106 (fun _ h => h)).keep u111 (fun _ h => h)).keep u115 (fun h9 => show ¬ (glb = bk103) by have := hllb h9; omega)).keep u121 (fun h9 => show ¬ (glb = bk108) by have := hllb h9; omega)).keep u132 (fun h9 => show ¬ (glb = bk103 ∨ glb = bk108) by have := hllb h9; omega)).keep u183 (fun _ h => h)).keep u186 (fun h9 => show ¬ (glb = bk180) by have := hllb h9; omega)).keep u193 (fun h9 => show ¬ (glb = bk180) by have := hllb h9; omega))
  refine g_i i D200 (fun _ => ?_)
  refine go ?_
  refine t_indexArr (j := (nth lb i).p.toNat) (0 + ((nth lb i).p.toNat) * 1) underlying63 sizeOf3 rfl rfl rfl rfl (by omega) (by omega) rfl ?_
  have B202 := (((B177.kx u183).keep u186 (by omega)).keep u193 (by omega))
  refine t_load isAgg3 rfl rfl rfl (((SlI.own B202).at_ ((nth lb i).p.toNat) (by omega)) 0 _ rfl) (t_same 170 (v := .int .i64 (byP Trd.b tm (nth lb i).p)) rfl (congrArg (Value.int .i64) hnn9) ?_)
  iterate 4 refine st1 ?_
  refine x_k1 (fun _ => False) [2, 7, 8, 9, 10, 11, 19, 20, 21, 24, 25, 26] (fun (u30 : Unit) => [(190, .bool false)]) (fun u30 w => True) (fun K208 hK208 => ?_) ?_
  ·
   refine go ?_
   refine g_i i D200 (fun _ => ?_)
   iterate 3 refine st1 ?_
   refine t_same 177 (v := .bool false) rfl (congrArg Value.bool (decide_eq_false (by omega))) ?_
   refine go ?_
   refine t_splitp 181 rfl (fun g181 => ?_) (fun g181 => ?_)
   ·
    refine go ?_
    refine g_i i D200 (fun _ => ?_)
    iterate 4 refine st1 ?_
    refine t_same 188 (v := .bool false) rfl (congrArg Value.bool (decide_eq_false (by omega))) ?_
    refine go ?_
    exact hK208 () trivial
   refine go ?_
   exact hK208 () trivial
  rintro u30 w209 _ u210 zu210
  refine go ?_
  refine x_l1 (fun _ => False) [2, 7, 8, 9, 10, 11, 19, 20, 21, 24, 25, 26] (fun (j : Nat) => [(27, .int .i64 (j : Int))]) (fun j w => (j ≤ lb.length)) (fun j => lb.length - j) 0 (Nat.zero_le _) ?_
  rintro j w217 hj u218 zu218 K216 hK216
  refine go ?_
  refine q_p (fun g194 => ?_) fun g194 => ?_
  ·
   have hm8 := nth_mem (xs := lb) (i := j) (by omega)
   have ho8 := okBid_ok (hoklb _ hm8)
   have hnn8 := arrP_nth (f := Trd.b) (ts := tm) (q := (nth lb j).p) ho8.1
   iterate 4 refine st1 ?_
   refine x_k1 (fun _ => False) [2, 7, 8, 9, 10, 11, 19, 20, 21, 24, 25, 26, 27] (fun (u35 : Unit) => [(226, .bool false)]) (fun u35 w => True) (fun K227 hK227 => ?_) ?_
   ·
    refine c_drawnM follows (fun _ => False) (OTl [0, 2, 4, 6, 8, 10, 12, 14, 16, 18, 20, 22, 24, 26, 28, 30, 32, 34, 36, 38, 40, 42, 44, 46, 48, 50, 52, 54, 56, 58]) (by kernel_rfl) fun w230 u231 => ?_
    have zu231 := u231.size
    refine go ?_
    have D233 := (((D200.keep u210 (fun _ h => h)).keep u218 (fun _ h => h)).keep u231 (fun _ h => h))
    refine y_i j D233 (fun _ => ?_)
    refine go ?_
    refine y_i i D233 (fun _ => ?_)
    refine go ?_
    refine y_splitp 208 rfl (fun g208 => ?_) (fun g208 => ?_)
    ·
     refine go ?_
     refine y_i j D233 (fun _ => ?_)
     refine go ?_
     refine y_indexArr (j := (nth lb j).p.toNat) (0 + ((nth lb j).p.toNat) * 1) underlying63 sizeOf3 rfl rfl rfl rfl (by omega) (by omega) rfl ?_
     have B237 := (((B202.kx u210).kx u218).kx u231)
     refine y_load isAgg3 rfl rfl rfl (((SlI.own B237).at_ ((nth lb j).p.toNat) (by omega)) 0 _ rfl) (fun h => h) (y_same 215 (v := .int .i64 (byP Trd.b tm (nth lb j).p)) rfl (congrArg (Value.int .i64) hnn8) ?_)
     refine go ?_
     refine y_i j D233 (fun _ => ?_)
     refine go ?_
     refine y_splitp 223 rfl (fun g223 => ?_) (fun g223 => ?_)
     ·
      iterate 2 refine st1 ?_
      refine y_same 225 (v := .bool false) rfl (congrArg Value.bool (decide_eq_false (hC.b2 _ hm9 _ hm8 (by omega) (by omega)))) ?_
      refine go ?_
      exact hK227 () trivial
     refine go ?_
     exact hK227 () trivial
    refine go ?_
    exact hK227 () trivial
   rintro u35 w228 _ u229 zu229
   refine go ?_
   exact hK216 (j + 1) (by omega)
  refine go ?_
  have D242 := ((D200.keep u210 (fun _ h => h)).keep u218 (fun _ h => h))
  refine g_i i D242 (fun _ => ?_)
  refine go ?_
  refine t_conv underlying5 underlying3 rfl rfl rfl (IntWalk.i64_in _ (by omega)) ?_
  refine go ?_
  refine q_p (fun g237 => ?_) fun g237 => ?_
  ·
   refine c_drawnM follows (fun i => i = bk180) (OTl [0, 4, 6, 8, 10, 12, 3, 14, 16, 19]) (by kernel_rfl) fun w244 u245 => ?_
   have zu245 := u245.size
   refine y_indexArr (j := 0) (0) underlying92 sizeOf3 rfl rfl rfl rfl rfl (by decide) rfl ?_
   refine go ?_
   have D247 := (D242.keep u245 (fun _ h => h))
   refine y_i i D247 (fun _ => ?_)
   refine go ?_
   refine y_indexArr (j := 0) (0) underlying92 sizeOf3 rfl rfl rfl rfl rfl (by decide) rfl ?_
   refine go ?_
   refine x_s fun w249 sw249 B251 u250 => ?_
   refine go ?_
   have hto : tonK (-1) p lb (i + 1) = tonK (-1) p lb i + (nth lb i).n := by rw [tonK, if_pos (by unfold trd; rw [decide_eq_true_eq]; omega)]
   exact hK191 (i + 1) ⟨(by rw [hto]; exact B251), (by omega)⟩ (hs := by exact ⟨(congrArg (fun z => some (Value.int .i64 z)) (by have := sB_take (B := (byP Trd.b tm)) (l := lb) (k := i) (by omega); omega)), rfl, rfl, rfl, rfl, rfl, rfl, rfl, rfl, rfl, rfl, trivial⟩)
  refine go ?_
  have hto : tonK (-1) p lb (i + 1) = tonK (-1) p lb i := by rw [tonK, if_neg (by unfold trd; rw [decide_eq_true_eq]; omega)]
  have B253 := ((I194.kx u210).kx u218)
  exact hK191 (i + 1) ⟨(by rw [hto]; exact B253), (by omega)⟩ (hs := by exact ⟨(congrArg (fun z => some (Value.int .i64 z)) (by have := sB_take (B := (byP Trd.b tm)) (l := lb) (k := i) (by omega); omega)), rfl, rfl, rfl, rfl, rfl, rfl, rfl, rfl, rfl, rfl, trivial⟩)
 have hz9 : turn tm - sB (byP Trd.b tm) (lb.take i) = 0 := by rw [List.take_of_length_le (by omega), hC.sb]; omega
 have hei : i = lb.length := by omega
 iterate 11 refine st1 ?_
 refine t_same 248 (v := .bool false) rfl (congrArg Value.bool (decide_eq_false (by omega))) ?_
 refine go ?_
 refine x_l1 (fun i => i = bk180) [2, 8, 9, 10, 11, 20, 24] (fun (i4 : Nat) => [(21, .int .i64 (sB (byP Trd.s tm) (la.take i4))), (28, .int .i64 (i4 : Int))]) (fun i4 w => Blk w bk180 92 [.int .i64 (tonK (-1) p lb i), .int .i64 (tonK 1 p la i4)] ∧ (i4 ≤ la.length)) (fun i4 => la.length - i4) 0 ⟨I194, (Nat.zero_le _)⟩ ?_ (h0 := by exact ⟨(congrArg (fun z => some (Value.int .i64 z)) hz9), rfl, rfl, rfl, rfl, rfl, rfl, rfl, rfl, trivial⟩)
 rintro i4 w259 ⟨I261, hi4⟩ u260 zu260 K258 hK258
 refine go ?_
 refine q_p (fun g252 => ?_) fun g252 => ?_
 ·
  have hp9 := hlla (by omega)
  have hm9 := nth_mem (xs := la) (i := i4) (by omega)
  have ho9 := okBid_ok (hokla _ hm9)
  have hb1 := hC.a1 _ hm9
  have hby9 := hby Trd.s (nth la i4).p
  have hnn9 := arrP_nth (f := Trd.s) (ts := tm) (q := (nth la i4).p) ho9.1
  have hsu9 := hC.sums Trd.s la i4 hC.sa
  have hsu8 := hC.sums Trd.s la (i4 + 1) hC.sa
  have hto9 := tonK_bd (sg := 1) (p := p) hokla (k := i4) (by omega)
  refine go ?_
  have D267 := ((((((((((((((((D21.keep u25 (fun _ h => h)).keep u31 (fun _ h => h)).keep u38 (fun _ h => h)).keep u43 (fun _ h => h)).keep u49 (fun _ h => h)).keep u73 (fun _ h => h)).keep u97 (fun _ h => h)).keep u106 (fun _ h => h)).keep u111 (fun _ h => h)).keep u115 (fun h9 => show ¬ (gla = bk103) by have := hlla h9; omega)).keep u121 (fun h9 => show ¬ (gla = bk108) by have := hlla h9; omega)).keep u132 (fun h9 => show ¬ (gla = bk103 ∨ gla = bk108) by have := hlla h9; omega)).keep u183 (fun _ h => h)).keep u186 (fun h9 => show ¬ (gla = bk180) by have := hlla h9; omega)).keep u193 (fun h9 => show ¬ (gla = bk180) by have := hlla h9; omega)).keep u260 (fun h9 => show ¬ (gla = bk180) by have := hlla h9; omega))
  refine g_i i4 D267 (fun _ => ?_)
  refine go ?_
  refine t_indexArr (j := (nth la i4).p.toNat) (0 + ((nth la i4).p.toNat) * 1) underlying63 sizeOf3 rfl rfl rfl rfl (by omega) (by omega) rfl ?_
  have B269 := ((((B178.kx u183).keep u186 (by omega)).keep u193 (by omega)).keep u260 (by omega))
  refine t_load isAgg3 rfl rfl rfl (((SlI.own B269).at_ ((nth la i4).p.toNat) (by omega)) 0 _ rfl) (t_same 261 (v := .int .i64 (byP Trd.s tm (nth la i4).p)) rfl (congrArg (Value.int .i64) hnn9) ?_)
  iterate 4 refine st1 ?_
  refine x_k1 (fun _ => False) [2, 8, 9, 10, 11, 20, 21, 24, 28, 29] (fun (u46 : Unit) => [(281, .bool false)]) (fun u46 w => True) (fun K275 hK275 => ?_) ?_
  ·
   refine go ?_
   refine g_i i4 D267 (fun _ => ?_)
   iterate 3 refine st1 ?_
   refine t_same 268 (v := .bool false) rfl (congrArg Value.bool (decide_eq_false (by omega))) ?_
   refine go ?_
   refine t_splitp 272 rfl (fun g272 => ?_) (fun g272 => ?_)
   ·
    refine go ?_
    refine g_i i4 D267 (fun _ => ?_)
    iterate 4 refine st1 ?_
    refine t_same 279 (v := .bool false) rfl (congrArg Value.bool (decide_eq_false (by omega))) ?_
    refine go ?_
    exact hK275 () trivial
   refine go ?_
   exact hK275 () trivial
  rintro u46 w276 _ u277 zu277
  refine go ?_
  refine x_l1 (fun _ => False) [2, 8, 9, 10, 11, 20, 21, 24, 28, 29] (fun (j4 : Nat) => [(30, .int .i64 (j4 : Int))]) (fun j4 w => (j4 ≤ la.length)) (fun j4 => la.length - j4) 0 (Nat.zero_le _) ?_
  rintro j4 w284 hj4 u285 zu285 K283 hK283
  refine go ?_
  refine q_p (fun g285 => ?_) fun g285 => ?_
  ·
   have hm8 := nth_mem (xs := la) (i := j4) (by omega)
   have ho8 := okBid_ok (hokla _ hm8)
   have hnn8 := arrP_nth (f := Trd.s) (ts := tm) (q := (nth la j4).p) ho8.1
   iterate 4 refine st1 ?_
   refine x_k1 (fun _ => False) [2, 8, 9, 10, 11, 20, 21, 24, 28, 29, 30] (fun (u51 : Unit) => [(317, .bool false)]) (fun u51 w => True) (fun K294 hK294 => ?_) ?_
   ·
    refine c_drawnM follows (fun _ => False) (OTl [0, 2, 4, 6, 8, 10, 12, 14, 16, 18, 20, 22, 24, 26, 28, 30, 32, 34, 36, 38, 40, 42, 44, 46, 48, 50, 52, 54, 56, 58]) (by kernel_rfl) fun w297 u298 => ?_
    have zu298 := u298.size
    refine go ?_
    have D300 := (((D267.keep u277 (fun _ h => h)).keep u285 (fun _ h => h)).keep u298 (fun _ h => h))
    refine y_i j4 D300 (fun _ => ?_)
    refine go ?_
    refine y_i i4 D300 (fun _ => ?_)
    refine go ?_
    refine y_splitp 299 rfl (fun g299 => ?_) (fun g299 => ?_)
    ·
     refine go ?_
     refine y_i j4 D300 (fun _ => ?_)
     refine go ?_
     refine y_indexArr (j := (nth la j4).p.toNat) (0 + ((nth la j4).p.toNat) * 1) underlying63 sizeOf3 rfl rfl rfl rfl (by omega) (by omega) rfl ?_
     have B304 := (((B269.kx u277).kx u285).kx u298)
     refine y_load isAgg3 rfl rfl rfl (((SlI.own B304).at_ ((nth la j4).p.toNat) (by omega)) 0 _ rfl) (fun h => h) (y_same 306 (v := .int .i64 (byP Trd.s tm (nth la j4).p)) rfl (congrArg (Value.int .i64) hnn8) ?_)
     refine go ?_
     refine y_i j4 D300 (fun _ => ?_)
     refine go ?_
     refine y_splitp 314 rfl (fun g314 => ?_) (fun g314 => ?_)
     ·
      iterate 2 refine st1 ?_
      refine y_same 316 (v := .bool false) rfl (congrArg Value.bool (decide_eq_false (hC.a2 _ hm9 _ hm8 (by omega) (by omega)))) ?_
      refine go ?_
      exact hK294 () trivial
     refine go ?_
     exact hK294 () trivial
    refine go ?_
    exact hK294 () trivial
   rintro u51 w295 _ u296 zu296
   refine go ?_
   exact hK283 (j4 + 1) (by omega)
  refine go ?_
  have D309 := ((D267.keep u277 (fun _ h => h)).keep u285 (fun _ h => h))
  refine g_i i4 D309 (fun _ => ?_)
  refine go ?_
  refine t_conv underlying5 underlying3 rfl rfl rfl (IntWalk.i64_in _ (by omega)) ?_
  refine go ?_
  refine q_p (fun g328 => ?_) fun g328 => ?_
  ·
   refine c_drawnM follows (fun i => i = bk180) (OTl [0, 4, 6, 8, 10, 12, 3, 14, 16, 19]) (by kernel_rfl) fun w311 u312 => ?_
   have zu312 := u312.size
   refine y_indexArr (j := 1) (1) underlying92 sizeOf3 rfl rfl rfl rfl rfl (by decide) rfl ?_
   refine go ?_
   have D314 := (D309.keep u312 (fun _ h => h))
   refine y_i i4 D314 (fun _ => ?_)
   refine go ?_
   refine y_indexArr (j := 1) (1) underlying92 sizeOf3 rfl rfl rfl rfl rfl (by decide) rfl ?_
   refine go ?_
   refine x_s fun w316 sw316 B318 u317 => ?_
   refine go ?_
   have hto : tonK 1 p la (i4 + 1) = tonK 1 p la i4 + (nth la i4).n := by rw [tonK, if_pos (by unfold trd; rw [decide_eq_true_eq]; omega)]
   exact hK258 (i4 + 1) ⟨(by rw [hto]; exact B318), (by omega)⟩ (hs := by exact ⟨(congrArg (fun z => some (Value.int .i64 z)) (by have := sB_take (B := (byP Trd.s tm)) (l := la) (k := i4) (by omega); omega)), rfl, rfl, rfl, rfl, rfl, rfl, rfl, rfl, trivial⟩)
  refine go ?_
  have hto : tonK 1 p la (i4 + 1) = tonK 1 p la i4 := by rw [tonK, if_neg (by unfold trd; rw [decide_eq_true_eq]; omega)]
  have B320 := ((I261.kx u277).kx u285)
  exact hK258 (i4 + 1) ⟨(by rw [hto]; exact B320), (by omega)⟩ (hs := by exact ⟨(congrArg (fun z => some (Value.int .i64 z)) (by have := sB_take (B := (byP Trd.s tm)) (l := la) (k := i4) (by omega); omega)), rfl, rfl, rfl, rfl, rfl, rfl, rfl, rfl, trivial⟩)
 have hz8 : sB (byP Trd.s tm) (la.take i4) = turn tm := by rw [List.take_of_length_le (by omega), hC.sa]
 have hei4 : i4 = la.length := by omega
 have hany := hC.any p
 rw [← hei, ← hei4] at hany
 have herr := hC.err
 have hpos9 := hC.pos
 refine go ?_
 refine t_indexArr (j := 0) (0) underlying92 sizeOf3 rfl rfl rfl rfl rfl (by decide) rfl ?_
 refine go ?_
 refine t_indexArr (j := 1) (1) underlying92 sizeOf3 rfl rfl rfl rfl rfl (by decide) rfl ?_
 refine go ?_
 refine t_min rfl rfl rfl rfl ?_
 iterate 2 refine st1 ?_
 refine t_same 344 (v := .bool false) rfl (congrArg Value.bool (decide_eq_false (by omega))) ?_
 refine go ?_
 refine q_p (fun g346 => ?_) fun g346 => ?_
 ·
  obtain ⟨he7, hp0, ht0⟩ := herr.resolve_left (by omega)
  have htz : turn tm = 0 := by rw [ht0]; rfl
  have hlz : tm.length = 0 := by rw [ht0]; rfl
  iterate 4 refine st1 ?_
  refine t_same 348 (v := .bool true) rfl (congrArg Value.bool (decide_eq_true (by omega))) ?_
  iterate 3 refine st1 ?_
  refine t_same 351 (v := .bool true) rfl (congrArg Value.bool (decide_eq_true (by omega))) ?_
  iterate 5 refine st1 ?_
  refine t_same 356 (v := .bool true) rfl (congrArg Value.bool (decide_eq_true (by omega))) ?_
  iterate 4 refine st1 ?_
  refine t_same 360 (v := .bool true) rfl (congrArg Value.bool (decide_eq_true (by omega))) ?_
  refine go ?_
  refine x_c func11 rfl rfl (known_c _ (by omega)) ?_
  rintro _ w327 ⟨rfl, u328⟩ zu328
  refine go ?_
  refine f_1 results7 ?_
  exact ⟨rfl, u_d⟩
 iterate 6 refine st1 ?_
 refine t_same 366 (v := .bool true) rfl (congrArg Value.bool (decide_eq_true (by omega))) ?_
 refine go ?_
 refine x_c func11 rfl rfl (known_c _ (by omega)) ?_
 rintro _ w333 ⟨rfl, u334⟩ zu334
 refine go ?_
 refine f_1 results7 ?_
 exact ⟨rfl, u_d⟩

end Go.Proofs.YtgoajalaomakpaaGreat
