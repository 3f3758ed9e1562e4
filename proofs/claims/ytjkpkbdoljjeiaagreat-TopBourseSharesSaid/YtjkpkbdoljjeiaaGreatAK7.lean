/-
  Part 7 of the proof: contracts and plain laws. Conditions: none.
-/
import Derived.Test.YtjkpkbdoljjeiaaGreatAK6
namespace Go.Proofs.YtjkpkbdoljjeiaaGreat
open Go Go.RowKit Go.Proofs.Tryz
theorem growB_c (n : Nat) (w0 : World) (hn : n ≤ 100000) (hpos : 0 < w0.heap.size) :
    CallsV Tryz.prog 34 [.slice none 0 0, .int .i64 (n : Int)] w0 (fun v w' => (∃ ao g cp, v = .slice ao 0 cp ∧ Acc encBid 4 27 w0.heap.size w' ao g cp []) ∧ Ext w0 w') := by
 refine f_n func34 ?_
 refine go ?_
 refine t_cap underlying24 rfl rfl rfl rfl ?_
 refine go ?_
 refine q_p (fun g16 => ?_) fun g16 => ?_
 ·
  refine go ?_
  refine t_cap underlying24 rfl rfl rfl rfl (t_sliceTo (0) underlying24 sizeOf27 rfl rfl rfl rfl (by omega) (by omega) (t_same 20 (v := .slice none 0 0) rfl (by rfl) ?_))
  refine go ?_
  refine t_appZN (z := .agg #[.int .i64 0, .int .i64 0, .int .i64 0, .int .i64 0]) (bytes := 32) (k := 4) n underlying24 underlying3 (by kernel_rfl) rfl (by decide) rfl rfl rfl rfl (by omega) (by omega) (by omega) (by decide) (fun cN w7 zs hcN hcM hzl B9 u8 => ?_)
  have zu8 := u8.size
  refine go ?_
  refine t_sliceTo (0) underlying24 sizeOf27 rfl rfl rfl rfl (by omega) (by omega) (t_same 25 (v := .slice (some ⟨w0.heap.size, 0, none⟩) 0 cN) rfl (by rw [subAddr_some (by omega)]) ?_)
  refine go ?_
  refine f_1 results34 ?_
  exact ⟨⟨_, _, cN, rfl, Acc.ofRaw (cs := zs) B9 (by omega) (Nat.zero_le _) hcM hzl (by rfl)⟩, u_d⟩
 refine go ?_
 refine f_1 results34 ?_
 exact ⟨⟨none, 0, 0, rfl, Acc.nil _ _ _ _ _ hpos (by omega)⟩, u_d⟩

theorem concatB_c (L : List (Hl Bid)) (ns : List Bid) (al : Option Addr) (bl ol cl : Nat) (w0 : World) (hL : Sl encHl 1 w0 al bl ol L) (hLm : ∀ h ∈ L, Sl encBid 4 w0 h.ao h.g h.o h.xs ∧ h.xs.length ≤ 1000) (hLl : L.length ≤ 2) (he : L.flatMap Hl.xs = ns) (hpos : 0 < w0.heap.size) :
    CallsV Tryz.prog 12 [.slice al L.length cl] w0 (fun v w' => (∃ ao g cp, v = .slice ao (List.length ns) cp ∧ Acc encBid 4 27 w0.heap.size w' ao g cp ns) ∧ Ext w0 w') := by
 refine f_n func12 ?_
 refine go ?_
 refine x_l1 (fun _ => False) [0, 9, 10] (fun (k : Nat) => [(3, .int .i64 (((L.take k).flatMap Hl.xs).length : Int)), (11, .int .i64 (k : Int))]) (fun k w => (k ≤ L.length) ∧ (((L.take k).flatMap Hl.xs).length ≤ 1000 * k)) (fun k => L.length - k) 0 ⟨(Nat.zero_le _), (Nat.le_refl _)⟩ ?_ (h0 := by exact ⟨(by first | exact congrArg (fun z => some (Value.int .i64 z)) (by rw [hst9, List.length_append]; omega) | rfl), rfl, rfl, rfl, rfl, trivial⟩)
 rintro k w6 ⟨hk, hsum⟩ u7 zu7 K5 hK5
 have E8 := Sc.mk ((Upd.refl (fun _ => False) w0).nx u7)
 refine go ?_
 refine q_p (fun g12 => ?_) fun g12 => ?_
 ·
  have hst9 : ((L.take (k + 1)).flatMap Hl.xs) = ((L.take k).flatMap Hl.xs) ++ (nth L k).xs := by rw [take_nth (show k < L.length by omega), List.flatMap_append]; simp
  have hx6 := (hLm _ (nth_mem (show k < L.length by omega))).2
  refine go ?_
  refine g_i k (hL.keep E8.u (fun _ h => h)) (fun _ => ?_)
  refine go ?_
  exact hK5 (k + 1) ⟨(by omega), (by rw [hst9, List.length_append]; have := (hLm _ (nth_mem (show k < L.length by omega))).2; omega)⟩ (hs := by exact ⟨(by first | exact congrArg (fun z => some (Value.int .i64 z)) (by rw [hst9, List.length_append]; omega) | rfl), rfl, rfl, rfl, rfl, trivial⟩)
 have hke : k = L.length := by omega
 have hsz : ((L.take k).flatMap Hl.xs) = ns := by rw [hke, List.take_length]; exact he
 refine go ?_
 refine x_c func34 rfl rfl (growB_c ((L.take k).flatMap Hl.xs).length _ (by omega) (by omega)) ?_
 rintro _ w18 ⟨⟨aG, gG, cG, rfl, haG⟩, u19⟩ zu19
 obtain ⟨gL, haL⟩ := Acc.lower (base' := w0.heap.size) haG (by omega) hpos
 have lt_gL := haL.lt
 refine go ?_
 refine x_l4 (fun i => w0.heap.size ≤ i) [25, 26] (fun (j : Nat) (ao : Option Addr) (gq : Nat) (cg : Nat) => [(6, .slice ao (((L.take j).flatMap Hl.xs).length) cg), (27, .int .i64 (j : Int))]) (fun j ao gq cg w => (j ≤ L.length) ∧ (Acc encBid 4 27 w0.heap.size w ao gq cg ((L.take j).flatMap Hl.xs)) ∧ (((L.take j).flatMap Hl.xs).length ≤ 1000 * j)) (fun j ao gq cg => L.length - j) 0 aG gL cG ⟨(Nat.zero_le _), haL, (Nat.le_refl _)⟩ ?_ (h0 := by exact ⟨(by first | (rw [hst9]; rfl) | rfl), rfl, rfl, rfl, trivial⟩)
 rintro j ao gq cg w25 ⟨hj, hgr, hsj⟩ u26 zu26 K24 hK24
 have E27 := Sc.mk ((E8.u.nx u19).next u26 (fun i hi (h : w0.heap.size ≤ i) => show False by first | omega | assumption))
 have lt_gq := hgr.lt
 refine go ?_
 refine q_p (fun g28 => ?_) fun g28 => ?_
 ·
  have hst9 : ((L.take (j + 1)).flatMap Hl.xs) = ((L.take j).flatMap Hl.xs) ++ (nth L j).xs := by rw [take_nth (show j < L.length by omega), List.flatMap_append]; simp
  have hx6 := (hLm _ (nth_mem (show j < L.length by omega))).2
  refine go ?_
  refine g_i j (hL.keep E27.u (fun _ h => h)) (fun _ => ?_)
  refine go ?_
  refine t_appendAll (enc := encBid) (z := .agg #[.int .i64 0, .int .i64 0, .int .i64 0, .int .i64 0]) (bytes := 32) (k := 4) (base := w0.heap.size) (xs := ((L.take j).flatMap Hl.xs)) (ys := (nth L j).xs) underlying24 (by kernel_rfl) rfl (by decide) (fun _ => rfl) (by intro x; simp [encBid, Value.oneCell']) rfl rfl rfl rfl hgr ((hLm (nth L j) (nth_mem (by omega))).1.keep E27.u (fun _ h => h)) (by omega) (by omega) (by omega) (by decide) (fun ao33 gb34 cp35 w36 A37 u38 gegb34 lngb34 => ?_)
  have zu38 := u38.size
  have lt_gb34 := A37.lt
  refine go ?_
  exact hK24 (j + 1) ao33 gb34 cp35 ⟨(by omega), (by rw [hst9]; exact A37), (by rw [hst9, List.length_append]; have := (hLm _ (nth_mem (show j < L.length by omega))).2; omega)⟩ (hs := by exact ⟨(by first | (rw [hst9]; rfl) | rfl), rfl, rfl, rfl, trivial⟩) (hu := (u26.next u38 (fun i hi (h : (i = gq ∧ w0.heap.size ≤ i)) => show w0.heap.size ≤ i by first | omega | assumption)))
 have hje : ((L.take j).flatMap Hl.xs) = ns := by rw [show j = L.length by omega, List.take_length]; exact he
 rw [hje] at hgr
 refine c_same 6 (v := .slice ao ns.length cg) rfl (by rw [hje]) ?_
 refine go ?_
 refine f_1 results12 ?_
 exact ⟨⟨ao, gq, cg, rfl, hgr⟩, u_d⟩



end Go.Proofs.YtjkpkbdoljjeiaaGreat
namespace Go.Proofs.YtjkpkbdoljjeiaaGreat
open Go Go.RowKit Go.Proofs.Tryz

/-- A queue is an array of orders and the number of the first one that is left. -/
def takeB (x : Bid) (t : Int) : Bid := ⟨x.p, x.n - t, x.r, x.m⟩
def takeZ (zs : List Bid) (i : Nat) (t : Int) : List Bid := zs.set i (takeB (nth zs i) t)
def takeI (zs : List Bid) (i : Nat) (t : Int) : Nat := if (nth zs i).n - t = 0 then i + 1 else i
theorem takeZ_len (zs : List Bid) (i : Nat) (t : Int) : (takeZ zs i t).length = zs.length := by simp [takeZ]
theorem takeZ_nth {zs : List Bid} {i : Nat} {t : Int} (h : i < zs.length) : nth (takeZ zs i t) i = takeB (nth zs i) t := by simp [takeZ, nth, List.getD_eq_getElem?_getD, h]
theorem takeZ_ne {zs : List Bid} {i j : Nat} {t : Int} (h : i ≠ j) : nth (takeZ zs i t) j = nth zs j := by simp [takeZ, nth, List.getD_eq_getElem?_getD, h]
theorem Wr.slD {α : Type} [Inhabited α] {enc : α → List Value} {k : Nat} {e : TypeId} {w : World} {g : Nat} {xs : List α} {a : Option Addr} {i : Nat} (h : Wr enc k e w g xs) (ha : i < xs.length → a = some ⟨g, i * k, none⟩) : Sl enc k w a g (i * k) (xs.drop i) := by
  by_cases hi : i < xs.length
  · have h1 := (h.sl (ao := some ⟨g, 0, none⟩) (fun _ => rfl)).sub (xs.length + 1) i (xs.length - i) (by omega)
    rw [subAddr_some (by omega), List.take_of_length_le (by simp), Nat.zero_add] at h1
    rw [ha hi]; exact h1
  · rw [List.drop_eq_nil_of_le (by omega)]; exact Sl.nil _ _ _ _ _ _
theorem take_sub {a : Option Addr} {g i cp n : Nat} (_hi : i < n) (ha : a = some ⟨g, i * 4, none⟩) (hc : n ≤ cp) (h : i + 1 < n) : subAddr a (cp - i) 1 4 = some ⟨g, (i + 1) * 4, none⟩ := by
  rw [ha, subAddr_some (by omega), show i * 4 + 1 * 4 = (i + 1) * 4 by omega]
theorem take_c (zs : List Bid) (i : Nat) (a : Option Addr) (g cp : Nat) (t : Int) (w0 : World) (hz : Wr encBid 4 27 w0 g zs) (ha : i < zs.length → a = some ⟨g, i * 4, none⟩) (hi : i < zs.length) (hcp : zs.length ≤ cp) (ht : 0 ≤ t ∧ t ≤ (nth zs i).n) (hn : (nth zs i).n ≤ 1000000) :
    CallsV Tryz.prog 21 [.slice a ((List.drop i zs).length) (cp - i), .int .i64 t] w0 (fun v w' => (∃ a', v = .slice a' (List.drop (takeI zs i t) (takeZ zs i t)).length (cp - takeI zs i t) ∧ (takeI zs i t < List.length (takeZ zs i t) → a' = some ⟨g, takeI zs i t * 4, none⟩) ∧ Wr encBid 4 27 w' g (takeZ zs i t)) ∧ Upd (fun j => j = g) w0 w') := by
 have e0 : nth (zs.drop i) 0 = nth zs i := by rw [nth_drop, Nat.add_zero]
 have e1 : nth ((takeZ zs i t).drop i) 0 = takeB (nth zs i) t := by rw [nth_drop, Nat.add_zero, takeZ_nth hi]
 have hdl : (zs.drop i).length = zs.length - i := List.length_drop
 have hdz : ((takeZ zs i t).drop i).length = zs.length - i := by rw [List.length_drop, takeZ_len]
 have haz : i < (takeZ zs i t).length → a = some ⟨g, i * 4, none⟩ := fun _ => ha hi
 refine f_n func21 ?_
 refine go ?_
 refine g_i 0 (Wr.slD hz ha) (fun _ => ?_)
 iterate 2 refine st1 ?_
 refine t_same 8 (v := .int .i64 ((nth zs i).n)) rfl (by rw [e0]) ?_
 refine go ?_
 refine g_i 0 (Wr.slD hz ha) (fun _ => ?_)
 refine go ?_
 refine t_storeW (enc := encBid) (vs := [.int .i64 ((nth zs i).n - t)]) (j := i) (o' := 1) (k := 4) (takeB (nth zs i) t) (fun _ => rfl) sizeOf3 rfl rfl (by omega) rfl hz hi rfl rfl (by decide) (by simp [Value.oneCell']) rfl (fun w6 R8 u7 => ?_)
 have zu7 := u7.size
 have Z10 : Wr encBid 4 27 w6 g (takeZ zs i t) := R8
 refine go ?_
 refine g_i 0 (Wr.slD Z10 haz) (fun _ => ?_)
 iterate 2 refine st1 ?_
 refine t_same 16 (v := .int .i64 ((nth zs i).n - t)) rfl (by rw [e1]; rfl) ?_
 refine go ?_
 refine q_p (fun g17 => ?_) fun g17 => ?_
 ·
  refine go ?_
  refine t_sliceFrom (1) underlying24 sizeOf27 rfl rfl rfl rfl rfl (by rw [List.length_drop]; omega) (by rw [List.length_drop]; omega) ?_
  refine go ?_
  refine f_1 results21 ?_
  have hti : takeI zs i t = i + 1 := if_pos g17
  exact ⟨⟨_, by rw [hti, List.length_drop, List.length_drop, takeZ_len, Nat.sub_sub, Nat.sub_sub], fun h => by rw [hti] at h ⊢; exact take_sub hi (ha hi) hcp (by rwa [takeZ_len] at h), Z10⟩, u_d⟩
 refine go ?_
 refine f_1 results21 ?_
 have hti : takeI zs i t = i := if_neg g17
 exact ⟨⟨_, by rw [hti, List.length_drop, List.length_drop, takeZ_len], fun h => by rw [hti] at h ⊢; exact ha hi, Z10⟩, u_d⟩

end Go.Proofs.YtjkpkbdoljjeiaaGreat
namespace Go.Proofs.YtjkpkbdoljjeiaaGreat
open Go Go.RowKit

def sumN : List Bid → Int
  | [] => 0
  | x :: l => x.n + sumN l
theorem sumN_app (a b : List Bid) : sumN (a ++ b) = sumN a + sumN b := by
  induction a with
  | nil => simp [sumN]
  | cons x l ih => simp only [List.cons_append, sumN, ih]; omega
theorem sumN_perm {a b : List Bid} (h : a.Perm b) : sumN a = sumN b := by
  induction h with
  | nil => rfl
  | cons x _ ih => simp only [sumN, ih]
  | swap x y l => simp only [sumN]; omega
  | trans _ _ h1 h2 => exact h1.trans h2
theorem tonK_sum (sg p : Int) (l : List Bid) : ∀ {k : Nat}, k ≤ l.length → tonK sg p l k = sumN ((l.take k).filter fun x => trd sg x p)
  | 0, _ => by simp [tonK, sumN]
  | k + 1, h => by
    rw [tonK, take_nth (show k < l.length by omega), List.filter_append, sumN_app, ← tonK_sum sg p l (k := k) (by omega)]
    by_cases q : trd sg (nth l k) p = true <;> simp [q, sumN]
/-- What a price clears. -/
def clP (lb la : List Bid) (p : Int) : Clr := ⟨p, min (tonK (-1) p lb lb.length) (tonK 1 p la la.length), max (tonK (-1) p lb lb.length - tonK 1 p la la.length) (tonK 1 p la la.length - tonK (-1) p lb lb.length)⟩
def crs (lb la : List Bid) : List Clr := (lb ++ la).map fun x => clP lb la x.r
theorem crs_len (lb la : List Bid) : (crs lb la).length = (lb ++ la).length := by simp [crs]
theorem crs_nth {lb la : List Bid} {k : Nat} (h : k < (lb ++ la).length) : nth (crs lb la) k = clP lb la (nth (lb ++ la) k).r := by
  unfold crs
  rw [nth_eq (by simpa using h), List.getElem_map, nth_eq h]
theorem minK_mem {l : List Clr} : ∀ {k : Nat}, k < l.length → minK l k ∈ l
  | 0, h => nth_mem h
  | k + 1, h => by
    unfold minK
    split
    · exact nth_mem h
    · exact minK_mem (by omega)
def mtBest (lb la : List Bid) : Clr := minK (crs lb la) ((crs lb la).length - 1)
theorem mtBest_ok {lb la : List Bid} (hb : ∀ x ∈ lb ++ la, okBid x = true) (h : (crs lb la).length ≠ 0) : mtBest lb la = clP lb la (mtBest lb la).p ∧ (0 ≤ (mtBest lb la).p ∧ (mtBest lb la).p ≤ 1000000) := by
  have h1 : mtBest lb la ∈ crs lb la := minK_mem (by omega)
  obtain ⟨x, hx, e⟩ := List.mem_map.1 h1
  rw [← e]
  exact ⟨rfl, (okBid_ok (hb x hx)).2.2.1⟩
theorem mtBest_t {lb la : List Bid} (hb : ∀ x ∈ lb ++ la, okBid x = true) (h : (crs lb la).length ≠ 0) : (mtBest lb la).t ≤ tonK (-1) (mtBest lb la).p lb lb.length ∧ (mtBest lb la).t ≤ tonK 1 (mtBest lb la).p la la.length ∧ 0 ≤ (mtBest lb la).t := by
  have h1 := (mtBest_ok hb h).1
  have h2 := congrArg Clr.t h1
  have h3 := tonK_bd (sg := -1) (p := (mtBest lb la).p) (l := lb) (fun x hx => hb x (List.mem_append_left _ hx)) (Nat.le_refl _)
  have h4 := tonK_bd (sg := 1) (p := (mtBest lb la).p) (l := la) (fun x hx => hb x (List.mem_append_right _ hx)) (Nat.le_refl _)
  simp only [clP] at h2
  omega
/-- The state of the matching: tons that are left, both queues, the trades. -/
structure MtS where
  l : Int
  zb : List Bid
  ib : Nat
  za : List Bid
  ia : Nat
  ts : List Trd
def mtN (s : MtS) : Int := min (min s.l (nth s.zb s.ib).n) (nth s.za s.ia).n
def mtStep (s : MtS) : MtS := ⟨s.l - mtN s, takeZ s.zb s.ib (mtN s), takeI s.zb s.ib (mtN s), takeZ s.za s.ia (mtN s), takeI s.za s.ia (mtN s), s.ts ++ [⟨(nth s.zb s.ib).p, (nth s.za s.ia).p, mtN s⟩]⟩
def mtS (m : Int) (yb ya : List Bid) : Nat → MtS
  | 0 => ⟨m, yb, 0, ya, 0, []⟩
  | k + 1 => mtStep (mtS m yb ya k)
structure MtOk (nb na : Nat) (s : MtS) : Prop where
  l0 : 0 ≤ s.l
  sb : s.l ≤ sumN (s.zb.drop s.ib)
  sa : s.l ≤ sumN (s.za.drop s.ia)
  ob : ∀ x ∈ s.zb.drop s.ib, 1 ≤ x.n ∧ x.n ≤ 1000000
  oa : ∀ x ∈ s.za.drop s.ia, 1 ≤ x.n ∧ x.n ≤ 1000000
  qb : s.zb.length = nb
  qa : s.za.length = na
  ib : s.ib ≤ nb
  ia : s.ia ≤ na
  tl : 0 < s.l → s.ts.length ≤ s.ib + s.ia
theorem head_lt {zs : List Bid} {i : Nat} {l : Int} (h0 : 0 < l) (h : l ≤ sumN (zs.drop i)) : i < zs.length := by
  rcases Nat.lt_or_ge i zs.length with q | q
  · exact q
  · rw [List.drop_eq_nil_of_le q] at h; simp only [sumN] at h; omega
theorem take_ok {zs : List Bid} {i : Nat} {t : Int} (hi : i < zs.length) (h1 : ∀ x ∈ zs.drop i, 1 ≤ x.n ∧ x.n ≤ 1000000) (ht : 1 ≤ t ∧ t ≤ (nth zs i).n) :
    sumN ((takeZ zs i t).drop (takeI zs i t)) = sumN (zs.drop i) - t ∧ (∀ x ∈ (takeZ zs i t).drop (takeI zs i t), 1 ≤ x.n ∧ x.n ≤ 1000000) ∧ takeI zs i t ≤ zs.length ∧ i ≤ takeI zs i t ∧ ((nth zs i).n = t → takeI zs i t = i + 1) := by
  have e1 := drop_nth hi
  have hd : (takeZ zs i t).drop (i + 1) = zs.drop (i + 1) := by simp [takeZ, List.drop_set]
  rw [e1] at h1
  have hx := h1 (nth zs i) (by simp)
  by_cases q : (nth zs i).n - t = 0
  · have hI : takeI zs i t = i + 1 := if_pos q
    rw [hI, hd, e1]
    exact ⟨by simp only [sumN]; omega, fun x h => h1 x (List.mem_cons_of_mem _ h), by omega, by omega, fun _ => rfl⟩
  · have hI : takeI zs i t = i := if_neg q
    have e2 := drop_nth (xs := takeZ zs i t) (i := i) (by rw [takeZ_len]; exact hi)
    rw [hI, e2, takeZ_nth hi, hd, e1]
    refine ⟨by simp only [sumN, takeB]; omega, fun x h => ?_, by omega, by omega, fun h => by omega⟩
    rcases List.mem_cons.1 h with rfl | h
    · simp only [takeB]; omega
    · exact h1 x (List.mem_cons_of_mem _ h)
theorem MtOk.heads {nb na : Nat} {s : MtS} (h : MtOk nb na s) (h0 : 0 < s.l) : s.ib < s.zb.length ∧ s.ia < s.za.length ∧ (1 ≤ (nth s.zb s.ib).n ∧ (nth s.zb s.ib).n ≤ 1000000) ∧ (1 ≤ (nth s.za s.ia).n ∧ (nth s.za s.ia).n ≤ 1000000) ∧ 1 ≤ mtN s ∧ mtN s ≤ s.l ∧ mtN s ≤ (nth s.zb s.ib).n ∧ mtN s ≤ (nth s.za s.ia).n ∧ (mtN s = s.l ∨ (nth s.zb s.ib).n = mtN s ∨ (nth s.za s.ia).n = mtN s) := by
  have h1 := head_lt h0 h.sb
  have h2 := head_lt h0 h.sa
  have h3 := h.ob (nth s.zb s.ib) (by rw [drop_nth h1]; simp)
  have h4 := h.oa (nth s.za s.ia) (by rw [drop_nth h2]; simp)
  unfold mtN
  omega
theorem MtOk.step {nb na : Nat} {s : MtS} (h : MtOk nb na s) (h0 : 0 < s.l) : MtOk nb na (mtStep s) := by
  obtain ⟨h1, h2, h3, h4, h5, h6, h7, h8, h9⟩ := h.heads h0
  obtain ⟨b1, b2, b3, b4, b5⟩ := take_ok h1 h.ob ⟨h5, h7⟩
  obtain ⟨a1, a2, a3, a4, a5⟩ := take_ok h2 h.oa ⟨h5, h8⟩
  have hsb := h.sb
  have hsa := h.sa
  have hnb := h.qb
  have hna := h.qa
  have htl := h.tl h0
  exact ⟨by show 0 ≤ s.l - mtN s; omega, by show s.l - mtN s ≤ _; exact b1 ▸ (by omega), by show s.l - mtN s ≤ _; exact a1 ▸ (by omega), b2, a2, by simp only [mtStep, takeZ_len]; exact hnb, by simp only [mtStep, takeZ_len]; exact hna,
    by simp only [mtStep]; omega, by simp only [mtStep]; omega, fun q => by
      simp only [mtStep, List.length_append, List.length_singleton] at q ⊢
      rcases h9 with e | e | e
      · omega
      · have := b5 e; omega
      · have := a5 e; omega⟩
theorem MtOk.init {lb la yb ya : List Bid} (hb : ∀ x ∈ lb ++ la, okBid x = true) (h : (crs lb la).length ≠ 0) (pb : yb.Perm (lb.filter fun x => trd (-1) x (mtBest lb la).p)) (pa : ya.Perm (la.filter fun x => trd 1 x (mtBest lb la).p)) :
    MtOk yb.length ya.length (mtS (mtBest lb la).t yb ya 0) := by
  obtain ⟨t1, t2, t3⟩ := mtBest_t hb h
  have s1 := tonK_sum (-1) (mtBest lb la).p lb (Nat.le_refl _)
  have s2 := tonK_sum 1 (mtBest lb la).p la (Nat.le_refl _)
  rw [List.take_length] at s1 s2
  have p1 := sumN_perm pb
  have p2 := sumN_perm pa
  exact ⟨t3, by show (mtBest lb la).t ≤ sumN yb; omega, by show (mtBest lb la).t ≤ sumN ya; omega, fun x hx => (okBid_ok (hb x (List.mem_append_left _ (List.mem_filter.1 (pb.mem_iff.1 hx)).1))).2.1, fun x hx => (okBid_ok (hb x (List.mem_append_right _ (List.mem_filter.1 (pa.mem_iff.1 hx)).1))).2.1, rfl, rfl, Nat.zero_le _, Nat.zero_le _, fun _ => Nat.le_refl _⟩
def mtErr (lb la : List Bid) : Int := if 30 < lb.length ∨ 30 < la.length then 5 else if ((lb ++ la).any fun x => !okBid x) = true then 2 else if ¬ (lb.map Bid.p).Nodup ∨ ¬ (la.map Bid.p).Nodup then 6 else if (lb ++ la).length = 0 ∨ (mtBest lb la).t = 0 then 7 else 0
/-- What Match returns: a price, the trades, the error. -/
def MtR (lb la : List Bid) (p : Int) (ts : List Trd) (e : Int) : Prop := e = mtErr lb la ∧ ((e ≠ 0 ∧ p = 0 ∧ ts = []) ∨ (e = 0 ∧ p = (mtBest lb la).p ∧ ∃ yb ya, yb.Perm (lb.filter fun x => trd (-1) x p) ∧ Asc (cmpB (-1)) yb ∧ ya.Perm (la.filter fun x => trd 1 x p) ∧ Asc (cmpB 1) ya ∧ ∃ k, (mtS (mtBest lb la).t yb ya k).l = 0 ∧ (∀ j, j < k → 0 < (mtS (mtBest lb la).t yb ya j).l) ∧ ts = (mtS (mtBest lb la).t yb ya k).ts))

end Go.Proofs.YtjkpkbdoljjeiaaGreat
namespace Go.Proofs.YtjkpkbdoljjeiaaGreat
open Go Go.RowKit Go.Proofs.Tryz

theorem Sl.ofBlk {α : Type} [Inhabited α] {enc : α → List Value} {k : Nat} (hk : ∀ x, (enc x).length = k) {w : World} {b : Nat} {t : TypeId} {xs : List α} (h : Blk w b t (xs.flatMap enc)) : Sl enc k w (some ⟨b, 0, none⟩) b 0 xs :=
  ⟨fun _ => rfl, fun _ => h.lt, fun i hi j v hv => by
    have h1 := flatMap_at hk xs i j v hi hv
    rw [Nat.zero_add]
    exact h.get h1⟩
section
variable {P : Program} {ops : Array Oper} {Q : Exit → Act → World → Prop} {N : Nat} {ds : List Deferred} {rest : List Oper} {L : Slots} {w : World} {rd : Option Nat} {d : Nat} {ty : TypeId} {pos : String} {aft : Array Edge} {g : Option (Nat × Bool)}
theorem t_min3 {x y z : Operand} {m n q : Int} {ats : Array TypeId} (hg : grd ops L g = true) (hN : Nat.blt d N = true) (hx : ev L x = some (.int .i64 m)) (hy : ev L y = some (.int .i64 n)) (hz : ev L z = some (.int .i64 q))
    (h : WL rd P ops Q N ds rest ((d, .int .i64 (min (min m n) q)) :: L) w) : WL rd P ops Q N ds (⟨some d, .call ⟨.builtin .min, #[x, y, z], ats⟩, ty, pos, aft, g⟩ :: rest) L w :=
  WL.value hg rfl hN (fun a hk => by
    have e : ∀ m n : Int, (if n < m then n else m) = min m n := fun m n => by split <;> omega
    simp [execOp, resolve, invoke, builtin, Builtin.min_, Builtin.min2, hk.ev hx, hk.ev hy, hk.ev hz, e]) h
end
set_option maxHeartbeats 4000000 in
theorem Match_c (lb : List Bid) (ab : Option Addr) (bb ob cb : Nat) (la : List Bid) (aa : Option Addr) (ba oa ca : Nat) (w0 : World) (hlb : Sl encBid 4 w0 ab bb ob lb) (hllb : lb.length ≤ 1000) (hla : Sl encBid 4 w0 aa ba oa la) (hlla : la.length ≤ 1000) (hpos : 0 < w0.heap.size) :
    CallsV Tryz.prog 6 [.slice ab lb.length cb, .slice aa la.length ca] w0 (fun v w' => (∃ p ts ao g cp e, v = .tuple #[.int .i64 p, .slice ao (List.length ts) cp, .int .i64 e] ∧ Acc encTrd 3 34 w0.heap.size w' ao g cp ts ∧ MtR lb la p ts e) ∧ Ext w0 w') := by
 refine f_n func6 ?_
 refine go ?_
 refine x_n fun bk3 w4 ebk3 sbk3 B5 u6 => ?_
 refine x_n fun bk8 w9 ebk8 sbk8 B10 u11 => ?_
 refine x_s fun w13 sw13 B15 u14 => ?_
 refine x_s fun w17 sw17 B19 u18 => ?_
 refine go ?_
 refine x_l fun bk22 w23 ebk22 sbk22 B24 u25 => ?_
 have E26 := Sc.mk ((((((Upd.refl (fun _ => False) w0).nx u6).nx u11).next u14 (fun i hi h => by omega)).next u18 (fun i hi h => by omega)).nx u25)
 have hLm9 : ∀ h ∈ [(⟨lb, ab, bb, ob, cb⟩ : Hl Bid), ⟨la, aa, ba, oa, ca⟩], Sl encBid 4 w23 h.ao h.g h.o h.xs ∧ h.xs.length ≤ 1000 := by
   intro h hh
   simp only [List.mem_cons, List.not_mem_nil, or_false] at hh
   rcases hh with rfl | rfl
   · exact ⟨(hlb.keep E26.u (fun _ h => h)), hllb⟩
   · exact ⟨(hla.keep E26.u (fun _ h => h)), hlla⟩
 refine x_c func12 rfl rfl (concatB_c [(⟨lb, ab, bb, ob, cb⟩ : Hl Bid), ⟨la, aa, ba, oa, ca⟩] (lb ++ la) (some ⟨bk22, 0, none⟩) bk22 0 2 _ (Sl.ofBlk (enc := encHl) (fun _ => rfl) B24) hLm9 (Nat.le_refl 2) (by simp) (by omega)) ?_
 rintro _ w28 ⟨⟨aC, gC, cC, rfl, hal⟩, u29⟩ zu29
 have hall : (lb ++ la).length = lb.length + la.length := List.length_append
 have lt_gC := hal.lt
 refine go ?_
 refine t_splitp 32 rfl (fun g32 => ?_) (fun g32 => ?_)
 ·
  refine go ?_
  refine f_ret3 (v1 := .int .i64 0) (v2 := .slice none 0 0) (v3 := .int .i64 5) results6 rfl rfl rfl ?_
  exact ⟨⟨0, [], none, 0, 0, 5, rfl, Acc.nil _ _ _ _ _ hpos (by omega), ⟨by unfold mtErr; rw [if_pos (by omega)], .inl ⟨by decide, rfl, rfl⟩⟩⟩, u_d⟩
 refine go ?_
 refine q_p (fun g28 => ?_) fun g28 => ?_
 ·
  refine go ?_
  refine f_ret3 (v1 := .int .i64 0) (v2 := .slice none 0 0) (v3 := .int .i64 5) results6 rfl rfl rfl ?_
  exact ⟨⟨0, [], none, 0, 0, 5, rfl, Acc.nil _ _ _ _ _ hpos (by omega), ⟨by unfold mtErr; rw [if_pos (by omega)], .inl ⟨by decide, rfl, rfl⟩⟩⟩, u_d⟩
 refine go ?_
 refine x_c func13 rfl rfl (containsB_c encBid (fun _ => rfl) (fun x => !okBid x) 14 [] (lb ++ la) aC gC 0 cC _ own14 (fun x _ w _ => badBid_c x w) (hal.sl (fun _ => rfl)) (by rw [List.length_append]; omega)) ?_
 rintro _ w38 ⟨rfl, u39⟩ zu39
 have E41 := Sc.mk ((E26.u.nx u29).nx u39)
 refine go ?_
 refine q_b (fun g37 => ?_) fun g37 => ?_
 ·
  refine go ?_
  refine f_ret3 (v1 := .int .i64 0) (v2 := .slice none 0 0) (v3 := .int .i64 2) results6 rfl rfl rfl ?_
  exact ⟨⟨0, [], none, 0, 0, 2, rfl, Acc.nil _ _ _ _ _ hpos (by omega), ⟨by unfold mtErr; rw [if_neg (by omega), if_pos g37], .inl ⟨by decide, rfl, rfl⟩⟩⟩, u_d⟩
 have hokal : ∀ x ∈ (lb ++ la), okBid x = true := fun x hx => by
   cases h : okBid x
   · exact absurd (show ((lb ++ la).any fun x => !okBid x) = true from List.any_eq_true.2 ⟨x, hx, by simp [h]⟩) (by rw [g37]; exact Bool.false_ne_true)
   · rfl
 refine go ?_
 refine x_c func16 rfl rfl (twice_c (-1) lb ab bb ob cb  _ (hlb.keep E41.u (fun _ h => h)) (Nat.le_trans hllb (by decide))) ?_
 rintro _ w45 ⟨rfl, u46⟩ zu46
 have E48 := Sc.mk (E41.u.nx u46)
 refine go ?_
 refine t_split 43 rfl (fun g43 => ?_) (fun g43 => ?_)
 ·
  refine go ?_
  refine f_ret3 (v1 := .int .i64 0) (v2 := .slice none 0 0) (v3 := .int .i64 6) results6 rfl rfl rfl ?_
  exact ⟨⟨0, [], none, 0, 0, 6, rfl, Acc.nil _ _ _ _ _ hpos (by omega), ⟨by unfold mtErr; rw [if_neg (by omega), if_neg (by rw [g37]; exact Bool.false_ne_true), if_pos (.inl (by simpa using g43))], .inl ⟨by decide, rfl, rfl⟩⟩⟩, u_d⟩
 refine go ?_
 refine x_c func16 rfl rfl (twice_c 1 la aa ba oa ca  _ (hla.keep E48.u (fun _ h => h)) (Nat.le_trans hlla (by decide))) ?_
 rintro _ w51 ⟨rfl, u52⟩ zu52
 refine go ?_
 refine q_b (fun g40 => ?_) fun g40 => ?_
 ·
  refine go ?_
  refine f_ret3 (v1 := .int .i64 0) (v2 := .slice none 0 0) (v3 := .int .i64 6) results6 rfl rfl rfl ?_
  exact ⟨⟨0, [], none, 0, 0, 6, rfl, Acc.nil _ _ _ _ _ hpos (by omega), ⟨by unfold mtErr; rw [if_neg (by omega), if_neg (by rw [g37]; exact Bool.false_ne_true), if_pos (.inr (by simpa using g40))], .inl ⟨by decide, rfl, rfl⟩⟩⟩, u_d⟩
 have hq43 : (lb.map Bid.p).Nodup := by simpa using g43
 have hq40 : (la.map Bid.p).Nodup := by simpa using g40
 have hnd9 : ¬ (¬ (lb.map Bid.p).Nodup ∨ ¬ (la.map Bid.p).Nodup) := fun h => h.elim (fun q => q hq43) (fun q => q hq40)
 refine go ?_
 refine x_l4 (fun i => w51.heap.size ≤ i) [5, 7, 8, 47, 48] (fun (k : Nat) (ao : Option Addr) (gq : Nat) (cg : Nat) => [(10, .slice ao (((crs lb la).take k).length) cg), (49, .int .i64 (k : Int))]) (fun k ao gq cg w => (k ≤ (lb ++ la).length) ∧ (Acc encClr 3 76 w51.heap.size w ao gq cg ((crs lb la).take k))) (fun k ao gq cg => (lb ++ la).length - k) 0 none 0 0 ⟨(Nat.zero_le _), (Acc.nil _ _ _ _ _ (by omega) (by omega))⟩ ?_ (h0 := by exact ⟨(by first | (rw [hst9]; rfl) | rfl), rfl, rfl, rfl, rfl, rfl, rfl, trivial⟩)
 rintro k ao gq cg w60 ⟨hk, hgr⟩ u61 zu61 K59 hK59
 have E62 := Sc.mk ((E48.u.nx u52).next u61 (fun i hi (h : w51.heap.size ≤ i) => show False by first | omega | assumption))
 have lt_gq := hgr.lt
 refine go ?_
 refine q_p (fun g50 => ?_) fun g50 => ?_
 ·
  have hst9 : (crs lb la).take (k + 1) = (crs lb la).take k ++ [clP lb la (nth (lb ++ la) k).r] := by rw [take_nth (by rw [crs_len]; omega), crs_nth (by omega)]
  have hcl9 : ((crs lb la).take k).length = k := by rw [List.length_take, crs_len]; omega
  have hpr9 := (okBid_ok (hokal _ (nth_mem (xs := (lb ++ la)) (i := k) (by omega)))).2.2.1
  refine go ?_
  have D67 := ((((hal.keep u39 (fun _ h => h)).keep u46 (fun _ h => h)).keep u52 (fun _ h => h)).keep u61 (fun hb => show ¬ (w51.heap.size ≤ gC) by first | omega | assumption))
  refine g_i k (D67.sl (fun _ => rfl)) (fun _ => ?_)
  refine go ?_
  refine x_n fun bk69 w70 ebk69 sbk69 B71 u72 => ?_
  refine x_s fun w74 sw74 B76 u75 => ?_
  refine go ?_
  refine c_drawnM follows (fun _ => False) (OTl [0, 2, 4, 8, 10, 12, 7, 15, 16, 18]) (by kernel_rfl) fun w79 u80 => ?_
  have zu80 := u80.size
  have E81 := Sc.mk (((E62.u.nx u72).next u75 (fun i hi h => by omega)).nx u80)
  refine go ?_
  refine x_c func17 rfl rfl (tons_c (-1) lb ab bb ob cb ((nth (lb ++ la) k).r) _ (.inr rfl) (hlb.keep E81.u (fun _ h => h)) (Nat.le_trans hllb (by decide)) (fun x hx => hokal x (List.mem_append_left _ hx)) hpr9) ?_
  rintro _ w83 ⟨rfl, u84⟩ zu84
  refine go ?_
  refine x_c func17 rfl rfl (tons_c 1 la aa ba oa ca ((nth (lb ++ la) k).r) _ (.inl rfl) (hla.keep (E81.u.nx u84) (fun _ h => h)) (Nat.le_trans hlla (by decide)) (fun x hx => hokal x (List.mem_append_right _ hx)) hpr9) ?_
  rintro _ w88 ⟨rfl, u89⟩ zu89
  refine go ?_
  refine t_min rfl rfl rfl rfl ?_
  refine go ?_
  have hdb9 := tonK_bd (sg := -1) (p := (nth (lb ++ la) k).r) (l := lb) (fun x hx => hokal x (List.mem_append_left _ hx)) (Nat.le_refl _)
  have hda9 := tonK_bd (sg := 1) (p := (nth (lb ++ la) k).r) (l := la) (fun x hx => hokal x (List.mem_append_right _ hx)) (Nat.le_refl _)
  refine go ?_
  refine t_max rfl rfl rfl rfl ?_
  refine go ?_
  refine x_l fun bk92 w93 ebk92 sbk92 B94 u95 => ?_
  have D97 := ((((((hgr.keep u72 (fun _ h => h)).keep u75 (fun hb => show ¬ (gq = bk69) by first | omega | assumption)).keep u80 (fun _ h => h)).keep u84 (fun _ h => h)).keep u89 (fun _ h => h)).keep u95 (fun _ h => h))
  refine t_append (z := .agg #[.int .i64 0, .int .i64 0, .int .i64 0]) (bytes := 24) (k := 3) (base := w51.heap.size) (clP lb la (nth (lb ++ la) k).r) underlying73 (by kernel_rfl) rfl (by decide) (fun _ => rfl) (by intro x; simp [encClr, Value.oneCell']) rfl rfl rfl rfl D97 B94 (by omega) (by omega) (by decide) (fun ao98 gb99 cp100 w101 A102 u103 gegb99 lngb99 => ?_)
  have zu103 := u103.size
  have lt_gb99 := A102.lt
  refine go ?_
  exact hK59 (k + 1) ao98 gb99 cp100 ⟨(by omega), (by rw [hst9]; exact A102)⟩ (hs := by exact ⟨(by first | (rw [hst9]; rfl) | rfl), rfl, rfl, rfl, rfl, rfl, rfl, trivial⟩) (hu := (((((((u61.nx u72).next u75 (fun i hi (h : i = bk69) => show w51.heap.size ≤ i by first | omega | assumption)).nx u80).nx u84).nx u89).nx u95).next u103 (fun i hi (h : (i = gq ∧ w51.heap.size ≤ i)) => show w51.heap.size ≤ i by first | omega | assumption)))
 have hke : (crs lb la).take k = (crs lb la) := List.take_of_length_le (by rw [crs_len]; omega)
 rw [hke] at hgr
 have hcrl := crs_len lb la
 refine c_same 10 (v := .slice ao ((crs lb la).length) cg) rfl (by rw [hke]) ?_
 have lt_gq := hgr.lt
 refine go ?_
 refine q_p (fun g80 => ?_) fun g80 => ?_
 ·
  refine go ?_
  refine f_ret3 (v1 := .int .i64 0) (v2 := .slice none 0 0) (v3 := .int .i64 7) results6 rfl rfl rfl ?_
  exact ⟨⟨0, [], none, 0, 0, 7, rfl, Acc.nil _ _ _ _ _ hpos (by omega), ⟨by unfold mtErr; rw [if_neg (by omega), if_neg (by rw [g37]; exact Bool.false_ne_true), if_neg hnd9, if_pos (.inl (by omega))], .inl ⟨by decide, rfl, rfl⟩⟩⟩, u_d⟩
 have hcr0 : (crs lb la).length ≠ 0 := by omega
 have hbp9 := (mtBest_ok hokal hcr0).2
 have hbt9 := mtBest_t hokal hcr0
 refine go ?_
 refine x_c func18 rfl rfl (minFunc_c (crs lb la) ao gq 0 cg _ (hgr.sl (fun _ => rfl)) (by omega) (by omega)) ?_
 rintro _ w110 ⟨rfl, u111⟩ zu111
 refine x_n fun bk114 w115 ebk114 sbk114 B116 u117 => ?_
 refine x_s fun w119 sw119 B121 u120 => ?_
 refine go ?_
 refine q_p (fun g85 => ?_) fun g85 => ?_
 ·
  refine go ?_
  refine f_ret3 (v1 := .int .i64 0) (v2 := .slice none 0 0) (v3 := .int .i64 7) results6 rfl rfl rfl ?_
  exact ⟨⟨0, [], none, 0, 0, 7, rfl, Acc.nil _ _ _ _ _ hpos (by omega), ⟨by unfold mtErr; rw [if_neg (by omega), if_neg (by rw [g37]; exact Bool.false_ne_true), if_neg hnd9, if_pos (.inr g85)], .inl ⟨by decide, rfl, rfl⟩⟩⟩, u_d⟩
 have hM85 : ¬ (mtBest lb la).t = 0 := g85
 refine go ?_
 refine c_drawnM follows (fun _ => False) (OTl [0, 2, 4, 8, 10, 12, 7, 15, 16, 18]) (by kernel_rfl) fun w127 u128 => ?_
 have zu128 := u128.size
 have E129 := Sc.mk ((((E62.u.nx u111).nx u117).next u120 (fun i hi h => by omega)).nx u128)
 refine go ?_
 refine x_c func20 rfl rfl (queue_c (-1) lb ab bb ob cb ((mtBest lb la).p) _ (.inr rfl) (hlb.keep E129.u (fun _ h => h)) (Nat.le_trans hllb (by decide)) (fun x hx => hokal x (List.mem_append_left _ hx)) hbp9 (by omega)) ?_
 rintro _ w131 ⟨⟨yb, ayb, gyb, cyb, rfl, hpb, hsb, hyb⟩, u132⟩ zu132
 have lt_gyb := hyb.lt
 refine go ?_
 refine x_c func20 rfl rfl (queue_c 1 la aa ba oa ca ((mtBest lb la).p) _ (.inl rfl) (hla.keep (E129.u.nx u132) (fun _ h => h)) (Nat.le_trans hlla (by decide)) (fun x hx => hokal x (List.mem_append_right _ hx)) hbp9 (by omega)) ?_
 rintro _ w136 ⟨⟨ya, aya, gya, cya, rfl, hpa, hsa, hya⟩, u137⟩ zu137
 have lt_gya := hya.lt
 refine go ?_
 have D142 := (hyb.keep u137 (fun _ h => h))
 have hmt0 := MtOk.init hokal hcr0 hpb hpa
 have hyb9 := D142
 have hya9 := hya
 have hMp : 0 < (mtBest lb la).t := by omega
 have hyb0 : 0 < yb.length := head_lt hMp hmt0.sb
 have hya0 : 0 < ya.length := head_lt hMp hmt0.sa
 have hMle : (mtBest lb la).t ≤ 1000000000 := by
   have := (tonK_bd (sg := -1) (p := (mtBest lb la).p) (l := lb) (fun x hx => hokal x (List.mem_append_left _ hx)) (Nat.le_refl _)).2; omega
 have hlb9 : yb.length ≤ 30 := by rw [hpb.length_eq]; exact Nat.le_trans (List.length_filter_le _ _) (by omega)
 have hla9 : ya.length ≤ 30 := by rw [hpa.length_eq]; exact Nat.le_trans (List.length_filter_le _ _) (by omega)
 have hgb9 := hyb9.ge hyb0
 have hga9 := hya9.ge hya0
 have hcb9 := hyb9.cap_le
 have hca9 := hya9.cap_le
 have lgb9 := hyb9.lt
 have lga9 := hya9.lt
 refine q_loop (γ := Nat × Option Addr × Option Addr × Option Addr × Nat × Nat) (fun gg => [(5, .slice gg.2.2.2.1 ((mtS (mtBest lb la).t yb ya gg.1).ts.length) gg.2.2.2.2.2), (15, .pointer (some ⟨bk114, 0, none⟩)), (16, .slice gg.2.1 ((List.drop (mtS (mtBest lb la).t yb ya gg.1).ib (mtS (mtBest lb la).t yb ya gg.1).zb).length) (cyb - (mtS (mtBest lb la).t yb ya gg.1).ib)), (17, .slice gg.2.2.1 ((List.drop (mtS (mtBest lb la).t yb ya gg.1).ia (mtS (mtBest lb la).t yb ya gg.1).za).length) (cya - (mtS (mtBest lb la).t yb ya gg.1).ia)), (18, .int .i64 ((mtS (mtBest lb la).t yb ya gg.1).l))]) (fun gg w => Upd (fun i => i = gyb ∨ i = gya ∨ w136.heap.size ≤ i) w136 w ∧ (MtOk yb.length ya.length (mtS (mtBest lb la).t yb ya gg.1)) ∧ (Wr encBid 4 27 w gyb (mtS (mtBest lb la).t yb ya gg.1).zb) ∧ (Wr encBid 4 27 w gya (mtS (mtBest lb la).t yb ya gg.1).za) ∧ ((mtS (mtBest lb la).t yb ya gg.1).ib < List.length (mtS (mtBest lb la).t yb ya gg.1).zb → gg.2.1 = some ⟨gyb, (mtS (mtBest lb la).t yb ya gg.1).ib * 4, none⟩) ∧ ((mtS (mtBest lb la).t yb ya gg.1).ia < List.length (mtS (mtBest lb la).t yb ya gg.1).za → gg.2.2.1 = some ⟨gya, (mtS (mtBest lb la).t yb ya gg.1).ia * 4, none⟩) ∧ (Acc encTrd 3 34 w136.heap.size w gg.2.2.2.1 gg.2.2.2.2.1 gg.2.2.2.2.2 (mtS (mtBest lb la).t yb ya gg.1).ts) ∧ (∀ j, j < gg.1 → 0 < (mtS (mtBest lb la).t yb ya j).l) ∧ ((mtS (mtBest lb la).t yb ya gg.1).l ≤ 1000000000)) (fun gg => (mtS (mtBest lb la).t yb ya gg.1).l.toNat) (0, ayb, aya, none, 0, 0) ⟨rfl, rfl, rfl, rfl, rfl, trivial⟩ ⟨Upd.refl _ _, hmt0, (hyb9.wr (fun _ => rfl)), (hya9.wr (fun _ => rfl)), (fun h => by rw [show (mtS (mtBest lb la).t yb ya 0).ib * 4 = 0 from rfl]; exact (hyb9.sl (fun _ => rfl)).addr h), (fun h => by rw [show (mtS (mtBest lb la).t yb ya 0).ia * 4 = 0 from rfl]; exact (hya9.sl (fun _ => rfl)).addr h), (Acc.nil _ _ _ _ _ (by omega) (by omega)), (fun j h => absurd h (Nat.not_lt_zero j)), hMle⟩ ?_
 intro gg w144 hW K143 hK143
 obtain ⟨k, a1, a2, ao, gt, ct⟩ := gg
 change WC _ _ _ _ _ _ [(5, .slice ao ((mtS (mtBest lb la).t yb ya k).ts.length) ct), (15, .pointer (some ⟨bk114, 0, none⟩)), (16, .slice a1 ((List.drop (mtS (mtBest lb la).t yb ya k).ib (mtS (mtBest lb la).t yb ya k).zb).length) (cyb - (mtS (mtBest lb la).t yb ya k).ib)), (17, .slice a2 ((List.drop (mtS (mtBest lb la).t yb ya k).ia (mtS (mtBest lb la).t yb ya k).za).length) (cya - (mtS (mtBest lb la).t yb ya k).ia)), (18, .int .i64 ((mtS (mtBest lb la).t yb ya k).l))] _
 change Upd (fun i => i = gyb ∨ i = gya ∨ w136.heap.size ≤ i) w136 w144 ∧ (MtOk yb.length ya.length (mtS (mtBest lb la).t yb ya k)) ∧ (Wr encBid 4 27 w144 gyb (mtS (mtBest lb la).t yb ya k).zb) ∧ (Wr encBid 4 27 w144 gya (mtS (mtBest lb la).t yb ya k).za) ∧ ((mtS (mtBest lb la).t yb ya k).ib < List.length (mtS (mtBest lb la).t yb ya k).zb → a1 = some ⟨gyb, (mtS (mtBest lb la).t yb ya k).ib * 4, none⟩) ∧ ((mtS (mtBest lb la).t yb ya k).ia < List.length (mtS (mtBest lb la).t yb ya k).za → a2 = some ⟨gya, (mtS (mtBest lb la).t yb ya k).ia * 4, none⟩) ∧ (Acc encTrd 3 34 w136.heap.size w144 ao gt ct (mtS (mtBest lb la).t yb ya k).ts) ∧ (∀ j, j < k → 0 < (mtS (mtBest lb la).t yb ya j).l) ∧ ((mtS (mtBest lb la).t yb ya k).l ≤ 1000000000) at hW
 obtain ⟨u145, I146, I147, I148, I149, I150, I151, I152, I153⟩ := hW
 have zu145 := u145.size
 have hmt := I146; clear I146
 have hzb := I147; clear I147
 have hza := I148; clear I148
 have hadrb := I149; clear I149
 have hadra := I150; clear I150
 have htr := I151; clear I151
 have hall9 := I152; clear I152
 have hlle := I153; clear I153
 have lt_gt := htr.lt
 refine go ?_
 refine q_p (fun g97 => ?_) fun g97 => ?_
 ·
  obtain ⟨hib, hia, hnb, hna, hn1, hn2, hn3, hn4, _⟩ := hmt.heads g97
  have hdb : (List.drop (mtS (mtBest lb la).t yb ya k).ib (mtS (mtBest lb la).t yb ya k).zb).length = (mtS (mtBest lb la).t yb ya k).zb.length - (mtS (mtBest lb la).t yb ya k).ib := List.length_drop
  have hda : (List.drop (mtS (mtBest lb la).t yb ya k).ia (mtS (mtBest lb la).t yb ya k).za).length = (mtS (mtBest lb la).t yb ya k).za.length - (mtS (mtBest lb la).t yb ya k).ia := List.length_drop
  have eb0 : nth (List.drop (mtS (mtBest lb la).t yb ya k).ib (mtS (mtBest lb la).t yb ya k).zb) 0 = nth (mtS (mtBest lb la).t yb ya k).zb (mtS (mtBest lb la).t yb ya k).ib := by rw [nth_drop, Nat.add_zero]
  have ea0 : nth (List.drop (mtS (mtBest lb la).t yb ya k).ia (mtS (mtBest lb la).t yb ya k).za) 0 = nth (mtS (mtBest lb la).t yb ya k).za (mtS (mtBest lb la).t yb ya k).ia := by rw [nth_drop, Nat.add_zero]
  have htl9 := hmt.tl g97
  have hnx9 : (mtS (mtBest lb la).t yb ya (k + 1)).l = (mtS (mtBest lb la).t yb ya k).l - mtN (mtS (mtBest lb la).t yb ya k) := rfl
  have hib9 := hmt.ib
  have hia9 := hmt.ia
  refine go ?_
  refine c_drawnM follows (fun _ => False) (OTl [0, 2, 4, 6, 8, 10, 12, 14, 16, 19, 20]) (by kernel_rfl) fun w158 u159 => ?_
  have zu159 := u159.size
  refine go ?_
  have D161 := (hzb.keep u159 (fun _ h => h))
  refine y_i 0 (Wr.slD D161 hadrb) (fun _ => ?_)
  iterate 2 refine st1 ?_
  refine y_same 102 (v := .int .i64 ((nth (mtS (mtBest lb la).t yb ya k).zb (mtS (mtBest lb la).t yb ya k).ib).n)) rfl (by rw [eb0]) ?_
  refine go ?_
  have D163 := (hza.keep u159 (fun _ h => h))
  refine y_i 0 (Wr.slD D163 hadra) (fun _ => ?_)
  iterate 2 refine st1 ?_
  refine y_same 106 (v := .int .i64 ((nth (mtS (mtBest lb la).t yb ya k).za (mtS (mtBest lb la).t yb ya k).ia).n)) rfl (by rw [ea0]) ?_
  refine go ?_
  refine t_min3 rfl rfl rfl rfl rfl (t_same 107 (v := .int .i64 (mtN (mtS (mtBest lb la).t yb ya k))) rfl (by unfold mtN; rfl) ?_)
  refine go ?_
  refine c_drawnM follows (fun i => (i = gt ∧ w136.heap.size ≤ i)) (OTl [0, 2, 4, 6, 8, 10, 12, 14, 16, 18, 20, 23, 25, 26]) (by kernel_rfl) fun w166 u167 => ?_
  have zu167 := u167.size
  refine go ?_
  have D169 := (D161.keep u167 (fun _ h => h))
  refine y_i 0 (Wr.slD D169 hadrb) (fun _ => ?_)
  iterate 2 refine st1 ?_
  refine y_same 112 (v := .int .i64 ((nth (mtS (mtBest lb la).t yb ya k).zb (mtS (mtBest lb la).t yb ya k).ib).p)) rfl (by rw [eb0]) ?_
  refine go ?_
  have D171 := (D163.keep u167 (fun _ h => h))
  refine y_i 0 (Wr.slD D171 hadra) (fun _ => ?_)
  iterate 2 refine st1 ?_
  refine y_same 116 (v := .int .i64 ((nth (mtS (mtBest lb la).t yb ya k).za (mtS (mtBest lb la).t yb ya k).ia).p)) rfl (by rw [ea0]) ?_
  refine go ?_
  refine x_l fun bk173 w174 ebk173 sbk173 B175 u176 => ?_
  refine go ?_
  have D178 := (((htr.keep u159 (fun _ h => h)).keep u167 (fun _ h => h)).keep u176 (fun _ h => h))
  refine t_append (z := .agg #[.int .i64 0, .int .i64 0, .int .i64 0]) (bytes := 24) (k := 3) (base := w136.heap.size) (⟨(nth (mtS (mtBest lb la).t yb ya k).zb (mtS (mtBest lb la).t yb ya k).ib).p, (nth (mtS (mtBest lb la).t yb ya k).za (mtS (mtBest lb la).t yb ya k).ia).p, mtN (mtS (mtBest lb la).t yb ya k)⟩ : Trd) underlying28 (by kernel_rfl) rfl (by decide) (fun _ => rfl) (by intro x; simp [encTrd, Value.oneCell']) rfl rfl rfl rfl D178 B175 (by omega) (by omega) (by decide) (fun ao179 gb180 cp181 w182 A183 u184 gegb180 lngb180 => ?_)
  have zu184 := u184.size
  have lt_gb180 := A183.lt
  refine go ?_
  have D186 := ((D169.keep u176 (fun _ h => h)).keep u184 (fun _ => show ¬ ((gyb = gt ∧ w136.heap.size ≤ gyb)) by omega))
  refine x_c func21 rfl rfl (take_c (mtS (mtBest lb la).t yb ya k).zb (mtS (mtBest lb la).t yb ya k).ib a1 gyb cyb (mtN (mtS (mtBest lb la).t yb ya k)) _ D186 hadrb hib (by rw [hmt.qb]; omega) (by omega) (by omega)) ?_
  rintro _ w188 ⟨⟨adbn, rfl, habn, hzbn⟩, u189⟩ zu189
  refine go ?_
  have D192 := (((D171.keep u176 (fun _ h => h)).keep u184 (fun _ => show ¬ ((gya = gt ∧ w136.heap.size ≤ gya)) by omega)).keep u189 (fun _ => show ¬ (gya = gyb) by omega))
  refine x_c func21 rfl rfl (take_c (mtS (mtBest lb la).t yb ya k).za (mtS (mtBest lb la).t yb ya k).ia a2 gya cya (mtN (mtS (mtBest lb la).t yb ya k)) _ D192 hadra hia (by rw [hmt.qa]; omega) (by omega) (by omega)) ?_
  rintro _ w194 ⟨⟨adan, rfl, haan, hzan⟩, u195⟩ zu195
  refine go ?_
  have D198 := (hzbn.keep u195 (fun _ => show ¬ (gyb = gya) by omega))
  have D199 := ((A183.keep u189 (fun hb => show ¬ (gb180 = gyb) by first | omega | assumption)).keep u195 (fun hb => show ¬ (gb180 = gya) by first | omega | assumption))
  exact hK143 (k + 1, adbn, adan, ao179, gb180, cp181) _ _ (by show (mtS (mtBest lb la).t yb ya (k + 1)).l.toNat < (mtS (mtBest lb la).t yb ya k).l.toNat; omega) ⟨rfl, rfl, rfl, rfl, rfl, trivial⟩ ⟨((((((u145.nx u159).nx u167).nx u176).next u184 (fun i hi (h : (i = gt ∧ w136.heap.size ≤ i)) => show i = gyb ∨ i = gya ∨ w136.heap.size ≤ i by first | omega | assumption)).next u189 (fun i hi (h : i = gyb) => show i = gyb ∨ i = gya ∨ w136.heap.size ≤ i by first | omega | assumption)).next u195 (fun i hi (h : i = gya) => show i = gyb ∨ i = gya ∨ w136.heap.size ≤ i by first | omega | assumption)), (hmt.step g97), D198, hzan, habn, haan, D199, (fun j h => (Nat.lt_succ_iff_lt_or_eq.1 h).elim (hall9 j) (fun e => e ▸ g97)), (hnx9 ▸ (by omega))⟩
 refine go ?_
 refine f_ret3 (v1 := .int .i64 ((mtBest lb la).p)) (v2 := .slice ao ((mtS (mtBest lb la).t yb ya k).ts.length) ct) (v3 := .int .i64 0) results6 rfl rfl rfl ?_
 have hl0 := hmt.l0
 obtain ⟨gz, hz⟩ := Acc.lower (base' := w0.heap.size) htr (by omega) hpos
 exact ⟨⟨_, _, _, gz, _, 0, rfl, hz, ⟨by unfold mtErr; rw [if_neg (by omega), if_neg (by rw [g37]; exact Bool.false_ne_true), if_neg hnd9, if_neg (by omega)], .inr ⟨rfl, rfl, yb, ya, hpb, hsb, hpa, hsa, k, by omega, hall9, rfl⟩⟩⟩, u_d⟩

end Go.Proofs.YtjkpkbdoljjeiaaGreat
