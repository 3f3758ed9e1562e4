/-
  Part 15 of the proof: contracts and plain laws. Conditions: none.
-/
import Derived.Test.YtjkpkbdoljjeiaaGreatAK14
namespace Go.Proofs.YtjkpkbdoljjeiaaGreat
open Go Go.RowKit Go.Proofs.Tryz
structure T3 where
  a : Int
  b : Int
  c : Int
instance : Inhabited T3 := ⟨⟨default, default, default⟩⟩
def okT3 (u : T3) : Prop := (0 ≤ u.a ∧ u.a ≤ 255) ∧ (0 ≤ u.b ∧ u.b ≤ 255) ∧ (0 ≤ u.c ∧ u.c ≤ 255)
def encT3 (x : T3) : List Value := [.int .u8 x.a, .int .u8 x.b, .int .u8 x.c]
theorem turn_take {ts : List Trd} {k : Nat} (hk : k < ts.length) : turn (ts.take (k + 1)) = turn (ts.take k) + (nth ts k).n := by
  rw [take_nth hk, turn_app]; simp [turn]
theorem turn_bd : ∀ {ts : List Trd}, (∀ t ∈ ts, 1 ≤ t.n ∧ t.n ≤ 1000000) → 0 ≤ turn ts ∧ turn ts ≤ 1000000 * (ts.length : Int)
  | [], _ => ⟨Int.le_refl _, Int.le_refl _⟩
  | t :: ts, h => by
    have h1 := turn_bd (ts := ts) fun x hx => h x (List.mem_cons_of_mem _ hx)
    have h2 := h t List.mem_cons_self
    simp only [turn, List.length_cons]
    omega
theorem Clear.bd {lb la : List Bid} {p e : Int} {ts : List Trd} (h : Clear lb la p ts e) (k : Nat) : (0 ≤ turn (ts.take k) ∧ turn (ts.take k) ≤ 61000000) ∧ (∀ f q, 0 ≤ byP f (ts.take k) q ∧ byP f (ts.take k) q ≤ 61000000) := by
  have h1 : ∀ t ∈ ts.take k, 1 ≤ t.n ∧ t.n ≤ 1000000 := fun t ht => (h.ok t (List.mem_of_mem_take ht)).1
  have h2 := turn_bd h1
  have h3 : (ts.take k).length ≤ 61 := by rw [List.length_take]; have := h.len; omega
  refine ⟨by omega, fun f q => ?_⟩
  have := byP_nn (f := f) (q := q) (fun t ht => by have := h1 t ht; omega : ∀ t ∈ ts.take k, 0 ≤ t.n)
  omega

def bdK (x : T3) (i : Nat) : Bid := ⟨(i : Int), 1 + x.a, x.b, x.c⟩
def bdL (xs : List T3) : Nat → List Bid
  | 0 => []
  | k + 1 => bdL xs k ++ [bdK (nth xs k) k]
theorem bdL_len (xs : List T3) : ∀ k, (bdL xs k).length = k
  | 0 => rfl
  | k + 1 => by rw [bdL, List.length_append, bdL_len xs k]; rfl
theorem bdL_nth {xs : List T3} {j : Nat} : ∀ {k : Nat}, j < k → nth (bdL xs k) j = bdK (nth xs j) j
  | k + 1, h => by
    rw [bdL]
    rcases Nat.lt_succ_iff_lt_or_eq.1 h with q | rfl
    · rw [nth_sn1 (by rw [bdL_len]; exact q), bdL_nth q]
    · have := nth_sn2 (xs := bdL xs j) (y := bdK (nth xs j) j)
      rw [bdL_len] at this
      exact this
theorem bdL_numd (xs : List T3) (k : Nat) : Numd (bdL xs k) := fun j hj => by
  rw [bdL_len] at hj
  rw [bdL_nth hj]; rfl
theorem bdL_ok {xs : List T3} (h : ∀ x ∈ xs, okT3 x) {k : Nat} (hk : k ≤ xs.length) (h8 : k ≤ 8) : ∀ x ∈ bdL xs k, okBid x = true ∧ x.n ≤ 256 ∧ x.r ≤ 255 := fun x hx => by
  obtain ⟨j, hj, rfl⟩ := mem_nth hx
  rw [bdL_len] at hj
  rw [bdL_nth hj]
  have hx := h _ (nth_mem (xs := xs) (i := j) (by omega))
  unfold okT3 at hx
  refine ⟨?_, ?_, ?_⟩
  · unfold okBid bdK; rw [decide_eq_true_eq]; dsimp only; omega
  · unfold bdK; dsimp only; omega
  · unfold bdK; dsimp only; omega
theorem sB_pos {B : Int → Int} : ∀ {l : List Bid}, 0 < sB B l → ∃ x ∈ l, 0 < B x.p
  | [], h => by simp [sB] at h
  | x :: l, h => by
    by_cases q : 0 < B x.p
    · exact ⟨x, List.mem_cons_self, q⟩
    · have h2 : 0 < sB B l := by rw [sB] at h; omega
      obtain ⟨y, hy, h3⟩ := sB_pos h2
      exact ⟨y, List.mem_cons_of_mem _ hy, h3⟩
theorem Clear.pB {lb la : List Bid} {p e : Int} {ts : List Trd} (h : Clear lb la p ts e) (hp : 0 < turn ts) (hb : ∀ x ∈ lb, x.r ≤ 255) : p ≤ 255 := by
  obtain ⟨x, hx, h2⟩ := sB_pos (B := byP Trd.b ts) (l := lb) (by rw [h.sb]; exact hp)
  have h3 := (h.b1 x hx).2 h2
  have h4 := hb x hx
  omega
theorem mulB {p x : Int} (hp : 0 ≤ p ∧ p ≤ 255) {B : Int} (hx : 0 ≤ x ∧ x ≤ B) : 0 ≤ p * x ∧ p * x ≤ 255 * B := by
  have h1 := Int.mul_nonneg hp.1 hx.1
  have h2 := Int.mul_le_mul hp.2 hx.2 hx.1 (by omega)
  omega
theorem preS_mem {ws : List Int} (h : ∀ j, j < ws.length → 0 ≤ nth ws j) {f : Nat} : ∀ {k : Nat}, f < k → k ≤ ws.length → nth ws f ≤ preS ws k
  | k + 1, hf, hk => by
    have h1 := (preS_up (ws := ws) (mem_of_nth (p := fun x => 0 ≤ x) h) (j := k) (k := k) (Nat.le_refl _) (by omega)).1
    have h0 := h k (by omega)
    rw [preS]
    rcases Nat.lt_succ_iff_lt_or_eq.1 hf with q | rfl
    · have := preS_mem h q (by omega)
      omega
    · omega
theorem avOk_of {sh : List Int} {m i f : Nat} {part : Int} (hm : m = sh.length) (hi : i = sh.length) (h8 : m ≤ 8) (hb : ∀ j, j < sh.length → 0 ≤ nth sh j ∧ nth sh j ≤ 65280) (hf : f < m) (hp : 1 ≤ part ∧ part ≤ nth sh f) :
    AvOk sh (grL m f part) ∧ preS sh sh.length ≤ 4294967295 ∧ preS (grL m f part) (grL m f part).length = part ∧ (∀ j, j < m → nth (gaS m (vlN sh i ++ [⟨4, (f : Int), part⟩]) (vlN sh i ++ [(⟨4, (f : Int), part⟩ : Nt)]).length) j = ⟨0, nth sh j, 0, 0, nth (grL m f part) j⟩) ∧ (vlN sh i ++ [(⟨4, (f : Int), part⟩ : Nt)]).length ≤ 9 ∧ (∀ x ∈ vlN sh i ++ [(⟨4, (f : Int), part⟩ : Nt)], okNt m x) := by
  subst hm hi
  have h1 := preS_bd hb (Nat.le_refl _)
  have h2 := preS_mem (fun j hj => (hb j hj).1) hf (Nat.le_refl _)
  have h3 : preS (grL sh.length f part) (grL sh.length f part).length = part := by rw [grL_len, grL_sum (Nat.le_refl _), if_pos hf]
  have h4 := hb f hf
  obtain ⟨v1, v2⟩ := vlN_ok (B := 65280) hb (k := sh.length) (Nat.le_refl _)
  refine ⟨⟨grL_len, by omega, fun j hj => by have := hb j hj; omega, fun j hj => ?_, by omega, by rw [h3]; omega⟩, by omega, h3, fun j hj => ?_, by rw [List.length_append, List.length_singleton]; omega, fun x hx => ?_⟩
  · rw [grL_len] at hj
    rw [grL_nth hj]
    split <;> omega
  · rw [av_at (fun i hi => (hb i hi).1) hj, grL_nth hj]
  · unfold okNt
    rcases List.mem_append.1 hx with q | q
    · have := v2 x q; omega
    · rw [List.mem_singleton.1 q]; dsimp only; omega
theorem splitK_c (p a : Int) (so : List Int) (ao0 : Option Addr) (b o c : Nat) (w : World) (hs : Sl encI 1 w ao0 b o so) (hl : so.length ≤ 8) (hn : ∀ x ∈ so, 0 ≤ x ∧ x ≤ 100000000000000) (ha : preS so so.length = a) (h0 : 0 < a) (hp : 0 ≤ p * a ∧ p * a ≤ 4294967295) (ha9 : a ≤ 4294967295) :
    CallsV Tryz.prog 7 [.int .i64 (p * a), .slice ao0 so.length c] w (fun v w' => (∃ sh ao g cp, v = .tuple #[.slice ao (List.length sh) cp, .int .i64 0] ∧ Sl encI 1 w' ao g 0 sh ∧ (0 < so.length → w.heap.size ≤ g) ∧ sh.length = so.length ∧ ∀ j, j < so.length → nth sh j = p * nth so j) ∧ Ext w w') := by
  subst ha
  refine (Split_c (p * preS so so.length) so ao0 b o c w hs (by omega) (fun x hx => (hn x hx).1) (by omega) h0 (by omega)).mono fun v w' ⟨⟨ao, g, cp, h1, h2, h3⟩, u⟩ => ⟨⟨_, ao, g, cp, h1, h2, h3, spA_len _, fun j hj => ?_⟩, u⟩
  rw [spA_nth hj, spK_mul h0]

set_option maxHeartbeats 4000000 in
theorem TopBourseShares_c (xb : List T3) (ab : Option Addr) (bxb oxb cb : Nat) (xa : List T3) (aa : Option Addr) (bxa oxa ca : Nat) (p : Int) (w0 : World) (hxbs : Sl encT3 3 w0 ab bxb oxb xb) (hxbl : xb.length ≤ 9223372036854775807) (hxb : ∀ x ∈ xb, okT3 x) (hxas : Sl encT3 3 w0 aa bxa oxa xa) (hxal : xa.length ≤ 9223372036854775807) (hxa : ∀ x ∈ xa, okT3 x) (hp : 0 ≤ p ∧ p ≤ 255) :
    CallsV Tryz.prog 3 [.slice ab xb.length cb, .slice aa xa.length ca, .int .u8 p] w0 (fun v w' => v = .bool true ∧ Ext w0 w') := by
 refine f_n func3 ?_
 iterate 6 refine st1 ?_
 refine x_k1 (fun _ => False) [0, 1, 2] (fun (qa : Bool) => [(34, .bool qa)]) (fun qa w => (qa = true ↔ (8 < xb.length ∨ 8 < xa.length))) (fun K7 hK7 => ?_) ?_
 ·
  refine go ?_
  refine t_splitp 30 rfl (fun g30 => ?_) (fun g30 => ?_)
  ·
   refine go ?_
   exact hK7 true (⟨fun _ => (by omega), fun _ => rfl⟩)
  refine go ?_
  exact hK7 (decide (8 < (xa.length : Int))) (by rw [decide_eq_true_eq]; omega)
 rintro qa w8 hqa u9 zu9
 refine q_b (fun g34 => ?_) fun g34 => ?_
 ·
  refine go ?_
  refine x_c func4 rfl rfl (moorPays_c _) ?_
  rintro _ w13 ⟨rfl, u14⟩ zu14
  refine go ?_
  refine x_c func5 rfl rfl (moorShares_c _) ?_
  rintro _ w18 ⟨rfl, u19⟩ zu19
  refine go ?_
  refine f_1 results3 ?_
  exact ⟨rfl, u_d⟩
 refine go ?_
 refine x_l fun bk23 w24 ebk23 sbk23 B25 u26 => ?_
 refine x_l fun bk28 w29 ebk28 sbk28 B30 u31 => ?_
 refine go ?_
 have B35 := (B25.kx u31)
 refine x_l4 (fun i => i = bk23 ∨ w29.heap.size ≤ i) [0, 1, 2, 8] (fun (k1 : Nat) (aob : Option Addr) (gob : Nat) (cob : Nat) => [(7, .slice aob ((bdL xb k1).length) cob), (9, .int .i64 (k1 : Int))]) (fun k1 aob gob cob w => (k1 ≤ xb.length) ∧ (Acc encBid 4 27 bk23 w aob gob cob (bdL xb k1)) ∧ (gob = bk23 ∨ w29.heap.size ≤ gob)) (fun k1 aob gob cob => xb.length - k1) 0 (some ⟨bk23, 0, none⟩) bk23 0 ⟨(Nat.zero_le _), (Acc.ofBlk (xs := ([] : List Bid)) encBid 4 (fun _ => rfl) B35 (Nat.le_refl _) (by decide)), (.inl rfl)⟩ ?_
 rintro k1 aob gob cob w37 ⟨hk1, hob, hgqob⟩ u38 zu38 K36 hK36
 have E39 := Sc.mk (((((Upd.refl (fun _ => False) w0).nx u9).nx u26).nx u31).next u38 (fun i hi (h : i = bk23 ∨ w29.heap.size ≤ i) => show False by first | omega | assumption))
 have lt_gob := hob.lt
 have holob := bdL_len xb k1
 refine go ?_
 refine q_p (fun g44 => ?_) fun g44 => ?_
 ·
  have h89 : ¬ (8 < xb.length ∨ 8 < xa.length) := fun h => by have := hqa.2 h; simp_all
  have hp9 := hxbs.lt (by omega)
  have hx9 := hxb _ (nth_mem (xs := xb) (i := k1) (by omega))
  unfold okT3 at hx9
  refine go ?_
  refine c_drawnM follows (fun i => (i = gob ∧ bk23 ≤ i)) (OTl [0, 2, 4, 6, 8, 10, 12, 14, 16, 18, 20, 22, 24, 26, 28, 30, 32, 34, 36, 38, 40, 42, 45, 47, 48]) (by kernel_rfl) fun w43 u44 => ?_
  have zu44 := u44.size
  have E45 := Sc.mk (E39.u.nx u44)
  refine go ?_
  refine y_i k1 (hxbs.keep E45.u (fun _ h => h)) (fun _ => ?_)
  refine y_indexArr (j := 0) (oxb + k1 * 3 + 0) underlying25 sizeOf5 rfl rfl rfl rfl rfl (by decide) rfl ?_
  refine go ?_
  refine y_conv underlying5 underlying3 rfl rfl rfl (IntWalk.i64_in _ (by omega)) ?_
  refine go ?_
  refine y_i k1 (hxbs.keep E45.u (fun _ h => h)) (fun _ => ?_)
  refine y_indexArr (j := 1) (oxb + k1 * 3 + 1) underlying25 sizeOf5 rfl rfl rfl rfl rfl (by decide) rfl ?_
  refine go ?_
  refine y_conv underlying5 underlying3 rfl rfl rfl (IntWalk.i64_in _ (by omega)) ?_
  refine go ?_
  refine y_i k1 (hxbs.keep E45.u (fun _ h => h)) (fun _ => ?_)
  refine y_indexArr (j := 2) (oxb + k1 * 3 + 2) underlying25 sizeOf5 rfl rfl rfl rfl rfl (by decide) rfl ?_
  refine go ?_
  refine y_conv underlying5 underlying3 rfl rfl rfl (IntWalk.i64_in _ (by omega)) ?_
  refine go ?_
  refine x_l fun bk49 w50 ebk49 sbk49 B51 u52 => ?_
  refine go ?_
  have D54 := ((hob.keep u44 (fun _ h => h)).keep u52 (fun _ h => h))
  refine t_append (z := .agg #[.int .i64 0, .int .i64 0, .int .i64 0, .int .i64 0]) (bytes := 32) (k := 4) (base := bk23) (bdK (nth xb k1) k1) underlying24 (by kernel_rfl) rfl (by decide) (fun _ => rfl) (by intro x; simp [encBid, Value.oneCell']) rfl rfl rfl rfl D54 B51 (by omega) (by omega) (by decide) (fun ao55 gb56 cp57 w58 A59 u60 gegb56 lngb56 => ?_)
  have zu60 := u60.size
  have lt_gb56 := A59.lt
  refine go ?_
  exact hK36 (k1 + 1) ao55 gb56 cp57 ⟨(by omega), A59, (by omega)⟩ (hu := (((u38.nx u44).nx u52).next u60 (fun i hi (h : (i = gob ∧ bk23 ≤ i)) => show i = bk23 ∨ w29.heap.size ≤ i by first | omega | assumption)))
 have h89 : ¬ (8 < xb.length ∨ 8 < xa.length) := fun h => by have := hqa.2 h; simp_all
 have hbo := bdL_ok hxb (k := k1) (by omega) (by omega)
 refine go ?_
 have B64 := (B30.keep u38 (show ¬ (bk28 = bk23 ∨ w29.heap.size ≤ bk28) by first | omega | assumption))
 refine x_l4 (fun i => i = bk28 ∨ w37.heap.size ≤ i) [0, 1, 2, 7] (fun (k2 : Nat) (aoa : Option Addr) (goa : Nat) (coa : Nat) => [(8, .slice aoa ((bdL xa k2).length) coa), (10, .int .i64 (k2 : Int))]) (fun k2 aoa goa coa w => (k2 ≤ xa.length) ∧ (Acc encBid 4 27 bk28 w aoa goa coa (bdL xa k2)) ∧ (goa = bk28 ∨ w37.heap.size ≤ goa)) (fun k2 aoa goa coa => xa.length - k2) 0 (some ⟨bk28, 0, none⟩) bk28 0 ⟨(Nat.zero_le _), (Acc.ofBlk (xs := ([] : List Bid)) encBid 4 (fun _ => rfl) B64 (Nat.le_refl _) (by decide)), (.inl rfl)⟩ ?_
 rintro k2 aoa goa coa w66 ⟨hk2, hoa, hgqoa⟩ u67 zu67 K65 hK65
 have lt_goa := hoa.lt
 have holoa := bdL_len xa k2
 refine go ?_
 refine q_p (fun g74 => ?_) fun g74 => ?_
 ·
  have hp9 := hxas.lt (by omega)
  have hx9 := hxa _ (nth_mem (xs := xa) (i := k2) (by omega))
  unfold okT3 at hx9
  refine go ?_
  refine c_drawnM follows (fun i => (i = goa ∧ bk28 ≤ i)) (OTl [0, 2, 4, 6, 8, 10, 12, 14, 16, 18, 20, 22, 24, 26, 28, 30, 32, 34, 36, 38, 40, 42, 45, 47, 48]) (by kernel_rfl) fun w72 u73 => ?_
  have zu73 := u73.size
  have E74 := Sc.mk ((E39.u.next u67 (fun i hi (h : i = bk28 ∨ w37.heap.size ≤ i) => show False by first | omega | assumption)).nx u73)
  refine go ?_
  refine y_i k2 (hxas.keep E74.u (fun _ h => h)) (fun _ => ?_)
  refine y_indexArr (j := 0) (oxa + k2 * 3 + 0) underlying25 sizeOf5 rfl rfl rfl rfl rfl (by decide) rfl ?_
  refine go ?_
  refine y_conv underlying5 underlying3 rfl rfl rfl (IntWalk.i64_in _ (by omega)) ?_
  refine go ?_
  refine y_i k2 (hxas.keep E74.u (fun _ h => h)) (fun _ => ?_)
  refine y_indexArr (j := 1) (oxa + k2 * 3 + 1) underlying25 sizeOf5 rfl rfl rfl rfl rfl (by decide) rfl ?_
  refine go ?_
  refine y_conv underlying5 underlying3 rfl rfl rfl (IntWalk.i64_in _ (by omega)) ?_
  refine go ?_
  refine y_i k2 (hxas.keep E74.u (fun _ h => h)) (fun _ => ?_)
  refine y_indexArr (j := 2) (oxa + k2 * 3 + 2) underlying25 sizeOf5 rfl rfl rfl rfl rfl (by decide) rfl ?_
  refine go ?_
  refine y_conv underlying5 underlying3 rfl rfl rfl (IntWalk.i64_in _ (by omega)) ?_
  refine go ?_
  refine x_l fun bk78 w79 ebk78 sbk78 B80 u81 => ?_
  refine go ?_
  have D83 := ((hoa.keep u73 (fun _ h => h)).keep u81 (fun _ h => h))
  refine t_append (z := .agg #[.int .i64 0, .int .i64 0, .int .i64 0, .int .i64 0]) (bytes := 32) (k := 4) (base := bk28) (bdK (nth xa k2) k2) underlying24 (by kernel_rfl) rfl (by decide) (fun _ => rfl) (by intro x; simp [encBid, Value.oneCell']) rfl rfl rfl rfl D83 B80 (by omega) (by omega) (by decide) (fun ao84 gb85 cp86 w87 A88 u89 gegb85 lngb85 => ?_)
  have zu89 := u89.size
  have lt_gb85 := A88.lt
  refine go ?_
  exact hK65 (k2 + 1) ao84 gb85 cp86 ⟨(by omega), A88, (by omega)⟩ (hu := (((u67.nx u73).nx u81).next u89 (fun i hi (h : (i = goa ∧ bk28 ≤ i)) => show i = bk28 ∨ w37.heap.size ≤ i by first | omega | assumption)))
 have hao := bdL_ok hxa (k := k2) (by omega) (by omega)
 refine go ?_
 refine x_l fun bk92 w93 ebk92 sbk92 B94 u95 => ?_
 refine go ?_
 have D97 := (hoa.keep u95 (fun _ h => h))
 refine t_copy (enc := encBid) (z := .agg #[.int .i64 0, .int .i64 0, .int .i64 0, .int .i64 0]) (bytes := 32) (k := 4) (ys := (bdL xa k2)) underlying24 (by kernel_rfl) rfl (by decide) (fun _ => rfl) (by intro x; simp [encBid, Value.oneCell']) rfl rfl rfl rfl B94 (D97.sl (fun _ => rfl)) (by omega) (by decide) (fun ao98 gb99 cp100 w101 A102 u103 gegb99 => ?_)
 have zu103 := u103.size
 have lt_gb99 := A102.lt
 have D105 := (((hob.keep u67 (fun hb => show ¬ (gob = bk28 ∨ w37.heap.size ≤ gob) by first | omega | assumption)).keep u95 (fun _ h => h)).keep u103 (fun hb => show ¬ ((gob = bk92 ∧ bk92 ≤ gob)) by first | omega | assumption))
 refine x_c func6 rfl rfl (Match_c (bdL xb k1) aob gob 0 cob (bdL xa k2) ao98 gb99 0 cp100 _ (D105.sl (fun _ => rfl)) (by omega) (A102.sl (fun _ => rfl)) (by omega) (by omega)) ?_
 rintro _ w107 ⟨⟨pm, tm, am, gm, cm, em, rfl, hAm, hRm⟩, u108⟩ zu108
 have htlm := hRm.len
 have hSm : Sl encTrd 3 w107 am gm 0 tm := hAm.sl (fun _ => rfl)
 have hltm := hSm.lt
 have hC := hRm.clear (fun x hx => (List.mem_append.1 hx).elim (fun h => (hbo x h).1) (fun h => (hao x h).1)) (numd_nd (bdL_numd xb k1)) (numd_nd (bdL_numd xa k2)) (by omega) (by omega)
 refine go ?_
 refine q_p (fun g111 => ?_) fun g111 => ?_
 ·
  obtain ⟨he7, hp0, ht0⟩ := hC.err.resolve_left (by omega)
  have hlz : tm.length = 0 := by rw [ht0]; rfl
  iterate 4 refine st1 ?_
  refine t_same 113 (v := .bool true) rfl (congrArg Value.bool (decide_eq_true (by omega))) ?_
  iterate 4 refine st1 ?_
  refine t_same 117 (v := .bool true) rfl (congrArg Value.bool (decide_eq_true (by omega))) ?_
  refine go ?_
  refine x_c func4 rfl rfl (moorPays_c _) ?_
  rintro _ w115 ⟨rfl, u116⟩ zu116
  refine go ?_
  refine x_c func5 rfl rfl (moorShares_c _) ?_
  rintro _ w120 ⟨rfl, u121⟩ zu121
  refine go ?_
  refine f_1 results3 ?_
  exact ⟨rfl, u_d⟩
 obtain ⟨hSo, hts⟩ := hC.sold hRm (fun x hx => (List.mem_append.1 hx).elim (fun h => (hbo x h).1) (fun h => (hao x h).1)) (bdL_numd xb k1) (bdL_numd xa k2) (by omega)
 have hp255 : 0 ≤ pm ∧ pm ≤ 255 := ⟨hSo.p.1, hC.pB hSo.pos fun x hx => (hbo x hx).2.2⟩
 refine go ?_
 refine t_makeI (n := (bdL xa k2).length) underlying32 (by kernel_rfl) rfl rfl rfl rfl rfl (by omega) (fun bk125 w126 ebk125 sbk125 B127 u128 => ?_)
 refine go ?_
 have B132 : Blk w126 bk125 3 ((soK (bdL xa k2).length tm 0).map (Value.int .i64)) := by
   have e : (((List.replicate ((bdL xa k2).length) (0 : Int)).map (Value.int .i64)) : List Value) = ((soK (bdL xa k2).length tm 0).map (Value.int .i64)) := rfl
   rw [← e]; exact B127
 refine x_l1 (fun i => i = bk125) [0, 2, 8, 11, 12, 14] (fun (k : Nat) => [(15, .int .i64 (pm * turn (tm.take k))), (16, .int .i64 (k : Int))]) (fun k w => Blk w bk125 3 ((soK (bdL xa k2).length tm k).map (Value.int .i64)) ∧ (k ≤ tm.length)) (fun k => tm.length - k) 0 ⟨B132, (Nat.zero_le _)⟩ ?_ (h0 := by exact ⟨(congrArg (fun z => some (Value.int .i64 z)) (Int.mul_zero pm).symm), rfl, rfl, rfl, rfl, rfl, rfl, rfl, trivial⟩)
 rintro k w134 ⟨I136, hk⟩ u135 zu135 K133 hK133
 refine go ?_
 refine q_p (fun g131 => ?_) fun g131 => ?_
 ·
  have hp9 := hltm (by omega)
  have hk9 := hC.ok _ (nth_mem (xs := tm) (i := k) (by omega))
  have ht9 := hts _ (nth_mem (xs := tm) (i := k) (by omega))
  obtain ⟨hbd1, hbd2⟩ := hC.bd k
  have hbd3 := hbd2 Trd.s ((nth tm k).s.toNat : Int)
  have hso8 := soK_at (m := (bdL xa k2).length) (ts := tm) (fun t ht => (hts t ht).2.1.1) (j := (nth tm k).s.toNat) (by omega) (k := k) (by omega)
  have hsol := soK_len (m := (bdL xa k2).length) (ts := tm) k
  have hmu1 := mulB hp255 (x := (nth tm k).n) (B := 1000000) (by omega)
  have hmu2 := mulB hp255 hbd1
  refine go ?_
  have D143 := ((hSm.keep u128 (fun _ h => h)).keep u135 (fun h9 => show ¬ (gm = bk125) by have := hltm h9; omega))
  refine g_i k D143 (fun _ => ?_)
  iterate 3 refine st1 ?_
  refine t_same 139 (v := .bool false) rfl (congrArg Value.bool (decide_eq_false (by omega))) ?_
  refine go ?_
  refine g_i k D143 (fun _ => ?_)
  iterate 5 refine st1 ?_
  refine t_same 148 (v := .bool false) rfl (congrArg Value.bool (decide_eq_false (by omega))) ?_
  refine go ?_
  refine g_i k D143 (fun _ => ?_)
  iterate 3 refine st1 ?_
  refine t_same 156 (v := .bool false) rfl (congrArg Value.bool (decide_eq_false (by omega))) ?_
  refine go ?_
  refine g_i k D143 (fun _ => ?_)
  iterate 5 refine st1 ?_
  refine t_same 166 (v := .bool false) rfl (congrArg Value.bool (decide_eq_false (by omega))) ?_
  refine go ?_
  refine g_i k D143 (fun _ => ?_)
  iterate 3 refine st1 ?_
  refine t_same 174 (v := .bool false) rfl (congrArg Value.bool (decide_eq_false (by omega))) ?_
  refine go ?_
  refine c_drawnM follows (fun i => i = bk125) (OTl [0, 2, 4, 6, 8, 10, 12, 16, 18, 20, 22, 24, 15, 26, 28, 31]) (by kernel_rfl) fun w150 u151 => ?_
  have zu151 := u151.size
  refine go ?_
  have D153 := (D143.keep u151 (fun _ h => h))
  refine y_i k D153 (fun _ => ?_)
  refine go ?_
  have B155 := (I136.kx u151)
  refine y_i ((nth tm k).s.toNat) (SlI.own B155) (fun _ => ?_) (hj := (by omega))
  refine go ?_
  refine y_i k D153 (fun _ => ?_)
  refine go ?_
  refine y_i ((nth tm k).s.toNat) (SlI.own B155) (fun _ => ?_) (hj := (by omega))
  refine go ?_
  refine t_storeI (ls := (soK (bdL xa k2).length tm k)) (v := ((nth (soK (bdL xa k2).length tm k) ((nth tm k).s.toNat)) + ((nth tm k).n))) ((nth tm k).s.toNat) sizeOf3 rfl rfl rfl B155 (by omega) (fun w159 sw159 B161 u160 => ?_)
  refine go ?_
  have D163 := (D153.keep u160 (fun h9 => show ¬ (gm = bk125) by have := hltm h9; omega))
  refine g_i k D163 (fun _ => ?_)
  refine go ?_
  exact hK133 (k + 1) ⟨(by rw [soK]; exact B161), (by omega)⟩ (hs := by exact ⟨(congrArg (fun z => some (Value.int .i64 z)) (by rw [turn_take (by omega), Int.mul_add])), rfl, rfl, rfl, rfl, rfl, rfl, rfl, trivial⟩)
 have hke : k = tm.length := by omega
 have htk : (tm.take k) = tm := List.take_of_length_le (by omega)
 have hsol := soK_len (m := (bdL xa k2).length) (ts := tm) tm.length
 have hson := hSo.nn
 have hsob := preS_bd (ws := (soK (bdL xa k2).length tm tm.length)) (B := 256) (fun j hj => by
   have h1 := hson j hj
   have h2 := (hao _ (nth_mem (xs := (bdL xa k2)) (i := j) (by omega))).2.1
   omega) (Nat.le_refl _)
 rw [hSo.all] at hsob
 have hmu2 := mulB hp255 (x := turn tm) (B := 2048) (by omega)
 have hso9 : ∀ x ∈ (soK (bdL xa k2).length tm tm.length), 0 ≤ x ∧ x ≤ 100000000000000 := mem_of_nth (p := fun x => 0 ≤ x ∧ x ≤ 100000000000000) fun j hj => by
   have h1 := hson j hj
   have h2 := (hao _ (nth_mem (xs := (bdL xa k2)) (i := j) (by omega))).2.1
   omega
 have hla1 : 1 ≤ (bdL xa k2).length := by
   rcases Nat.eq_zero_or_pos (bdL xa k2).length with h | h
   · have h1 := hSo.all
     have h2 := hSo.pos
     rw [hsol, h] at h1
     have h3 : preS (soK (bdL xa k2).length tm tm.length) 0 = 0 := rfl
     omega
   · exact h
 have B165 : Blk w134 bk125 3 ((soK (bdL xa k2).length tm tm.length).map (Value.int .i64)) := by
   have e : (((soK (bdL xa k2).length tm k).map (Value.int .i64)) : List Value) = ((soK (bdL xa k2).length tm tm.length).map (Value.int .i64)) := (by rw [hke])
   rw [← e]; exact I136
 iterate 9 refine st1 ?_
 refine t_same 201 (v := .int .i64 (pm * turn tm)) rfl (congrArg (Value.int .i64) (by rw [htk])) ?_
 refine x_l fun bk167 w168 ebk167 sbk167 B169 u170 => ?_
 refine st1 ?_
 refine t_same 203 (v := .slice (some ⟨bk125, 0, none⟩) ((soK (bdL xa k2).length tm tm.length).length) ((bdL xa k2).length)) rfl (by rw [hsol]) ?_
 have B172 := (B165.kx u170)
 refine t_copy (enc := encI) (z := .int .i64 0) (bytes := 8) (k := 1) (ys := (soK (bdL xa k2).length tm tm.length)) underlying32 (by kernel_rfl) rfl (by decide) (fun _ => rfl) (by intro x; simp [encI, Value.oneCell']) rfl rfl rfl rfl B169 (SlI.own B172) (by omega) (by decide) (fun ao173 gb174 cp175 w176 A177 u178 gegb174 => ?_)
 have zu178 := u178.size
 have lt_gb174 := A177.lt
 refine x_c func7 rfl rfl (splitK_c pm (turn tm) (soK (bdL xa k2).length tm tm.length) ao173 gb174 0 cp175 _ (A177.sl (fun _ => rfl)) (by omega) hso9 hSo.all hSo.pos (by omega) (by omega)) ?_
 rintro _ w181 ⟨⟨sh, aS, gS, cS, rfl, hS, hGS, hshl, hshn⟩, u182⟩ zu182
 have hltS := hS.lt
 iterate 18 refine st1 ?_
 refine t_same 215 (v := .bool false) rfl (congrArg Value.bool (decide_eq_false (fun h => h (by omega)))) ?_
 refine go ?_
 have hshb : ∀ j, j < sh.length → 0 ≤ nth sh j ∧ nth sh j ≤ 65280 := fun j hj => by
   have h1 := hson j (by omega)
   have h2 := (hao _ (nth_mem (xs := (bdL xa k2)) (i := j) (by omega))).2.1
   rw [hshn j (by omega)]
   exact mulB hp255 (B := 256) (by omega)
 refine x_l fun bk188 w189 ebk188 sbk188 B190 u191 => ?_
 refine go ?_
 refine x_l4 (fun i => bk188 ≤ i) [2, 8, 11, 14, 17] (fun (i : Nat) (an : Option Addr) (gn : Nat) (cn : Nat) => [(18, .slice an ((vlN sh i).length) cn), (19, .int .i64 (fsN sh i)), (20, .int .i64 (i : Int))]) (fun i an gn cn w => (i ≤ sh.length) ∧ (Acc encNt 3 40 bk188 w an gn cn (vlN sh i))) (fun i an gn cn => sh.length - i) 0 (some ⟨bk188, 0, none⟩) bk188 0 ⟨(Nat.zero_le _), (Acc.ofBlk (xs := ([] : List Nt)) encNt 3 (fun _ => rfl) B190 (Nat.le_refl _) (by decide))⟩ ?_
 rintro i an gn cn w196 ⟨hi, hnt⟩ u197 zu197 K195 hK195
 have lt_gn := hnt.lt
 have hvll := (vlN_ok (B := 65280) hshb (k := i) (by omega)).1
 refine go ?_
 refine q_p (fun g221 => ?_) fun g221 => ?_
 ·
  have hp9 := hltS (by omega)
  have hn9 := hson i (by omega)
  have hl9 := (hao _ (nth_mem (xs := (bdL xa k2)) (i := i) (by omega))).2.1
  have he9 := hshn i (by omega)
  have hmu3 := mulB hp255 (x := nth (soK (bdL xa k2).length tm tm.length) i) (B := 256) (by omega)
  refine go ?_
  refine c_drawnM follows (fun _ => False) (OTl [0, 2, 4, 6, 8, 10, 12, 14, 16, 18, 20, 22, 24, 26, 28, 30, 32, 34, 36, 38, 40, 42, 44]) (by kernel_rfl) fun w204 u205 => ?_
  have zu205 := u205.size
  refine go ?_
  have D207 := (((hS.keep u191 (fun _ h => h)).keep u197 (fun h9 => show ¬ (bk188 ≤ gS) by have := hltS h9; omega)).keep u205 (fun _ h => h))
  refine y_i i D207 (fun _ => ?_)
  refine go ?_
  have B209 := (((((B172.keep u178 (by omega)).kx u182).kx u191).keep u197 (show ¬ (bk188 ≤ bk125) by first | omega | assumption)).kx u205)
  refine y_i i (SlI.own B209) (fun _ => ?_)
  iterate 3 refine st1 ?_
  refine y_same 234 (v := .bool false) rfl (congrArg Value.bool (decide_eq_false (fun h => h (by omega)))) ?_
  refine go ?_
  refine y_i i (SlI.own B209) (fun _ => ?_)
  refine go ?_
  have D212 := ((((((((((D97.keep u103 (fun hb => show ¬ ((goa = bk92 ∧ bk92 ≤ goa)) by first | omega | assumption)).keep u108 (fun _ h => h)).keep u128 (fun _ h => h)).keep u135 (fun hb => show ¬ (goa = bk125) by first | omega | assumption)).keep u170 (fun _ h => h)).keep u178 (fun hb => show ¬ ((goa = bk167 ∧ bk167 ≤ goa)) by first | omega | assumption)).keep u182 (fun _ h => h)).keep u191 (fun _ h => h)).keep u197 (fun hb => show ¬ (bk188 ≤ goa) by first | omega | assumption)).keep u205 (fun _ h => h))
  refine y_i i (D212.sl (fun _ => rfl)) (fun _ => ?_)
  iterate 3 refine st1 ?_
  refine y_same 245 (v := .bool false) rfl (congrArg Value.bool (decide_eq_false (by omega))) ?_
  refine go ?_
  refine g_i i D207 (fun _ => ?_)
  refine go ?_
  refine q_p (fun g251 => ?_) fun g251 => ?_
  ·
   refine go ?_
   refine g_i i D207 (fun _ => ?_)
   refine go ?_
   refine x_l fun bk218 w219 ebk218 sbk218 B220 u221 => ?_
   have D223 := ((hnt.keep u205 (fun _ h => h)).keep u221 (fun _ h => h))
   refine t_append (z := .agg #[.int .i64 0, .int .i64 0, .int .i64 0]) (bytes := 24) (k := 3) (base := bk188) (⟨1, (i : Int), nth sh i⟩ : Nt) underlying37 (by kernel_rfl) rfl (by decide) (fun _ => rfl) (by intro x; simp [encNt, Value.oneCell']) rfl rfl rfl rfl D223 B220 (by omega) (by omega) (by decide) (fun ao224 gb225 cp226 w227 A228 u229 gegb225 lngb225 => ?_)
   have zu229 := u229.size
   have lt_gb225 := A228.lt
   refine go ?_
   refine q_p (fun g262 => ?_) fun g262 => ?_
   ·
    refine go ?_
    have hvl : vlN sh (i + 1) = vlN sh i ++ [⟨1, (i : Int), nth sh i⟩] := by rw [vlN, if_pos (by omega)]
    have hfs : fsN sh (i + 1) = (i : Int) := by rw [fsN, if_pos ⟨by omega, by omega⟩]
    exact hK195 (i + 1) ao224 gb225 cp226 ⟨(by omega), (by rw [hvl]; exact A228)⟩ (hs := by exact ⟨(by rw [hvl] <;> rfl), (by rw [hfs] <;> rfl), rfl, rfl, rfl, rfl, rfl, rfl, trivial⟩) (hu := (((u197.nx u205).nx u221).next u229 (fun i hi (h : (i = gn ∧ bk188 ≤ i)) => show bk188 ≤ i by first | omega | assumption)))
   refine go ?_
   have hvl : vlN sh (i + 1) = vlN sh i ++ [⟨1, (i : Int), nth sh i⟩] := by rw [vlN, if_pos (by omega)]
   have hfs : fsN sh (i + 1) = fsN sh i := by rw [fsN, if_neg (by omega)]
   exact hK195 (i + 1) ao224 gb225 cp226 ⟨(by omega), (by rw [hvl]; exact A228)⟩ (hs := by exact ⟨(by rw [hvl] <;> rfl), (by rw [hfs] <;> rfl), rfl, rfl, rfl, rfl, rfl, rfl, trivial⟩) (hu := (((u197.nx u205).nx u221).next u229 (fun i hi (h : (i = gn ∧ bk188 ≤ i)) => show bk188 ≤ i by first | omega | assumption)))
  refine go ?_
  have hvl : vlN sh (i + 1) = vlN sh i := by rw [vlN, if_neg (by omega)]
  have hfs : fsN sh (i + 1) = fsN sh i := by rw [fsN, if_neg (by omega)]
  have D232 := (hnt.keep u205 (fun _ h => h))
  exact hK195 (i + 1) an gn cn ⟨(by omega), (by rw [hvl]; exact D232)⟩ (hs := by exact ⟨(by rw [hvl] <;> rfl), (by rw [hfs] <;> rfl), rfl, rfl, rfl, rfl, rfl, rfl, trivial⟩) (hu := (u197.nx u205))
 have hie : i = sh.length := by omega
 refine go ?_
 refine q_p (fun g265 => ?_) fun g265 => ?_
 ·
  have hp0 : pm = 0 := by
    rcases fsN_at (sh := sh) (k := i) with ⟨_, h2⟩ | ⟨j, _, h2, _⟩
    · exact hSo.none fun j hj => by rw [hSo.sh.2 j hj, ← hshn j hj]; exact h2 j (by omega)
    · omega
  iterate 4 refine st1 ?_
  refine t_same 267 (v := .bool true) rfl (congrArg Value.bool (decide_eq_true (by omega))) ?_
  refine go ?_
  refine x_c func4 rfl rfl (moorPays_c _) ?_
  rintro _ w237 ⟨rfl, u238⟩ zu238
  refine go ?_
  refine x_c func5 rfl rfl (moorShares_c _) ?_
  rintro _ w242 ⟨rfl, u243⟩ zu243
  refine go ?_
  refine f_1 results3 ?_
  exact ⟨rfl, u_d⟩
 obtain ⟨f, hf1, hf2, hf3⟩ := (fsN_at (sh := sh) (k := i)).resolve_left (fun h => by omega)
 have hmd1 := Int.emod_nonneg p (show nth sh f ≠ 0 by omega)
 have hmd2 := Int.emod_lt_of_pos p hf3
 have hshf := hshb f (by omega)
 have hp9 := hltS (by omega)
 obtain ⟨hav, hV32, hPG, hits, hnl9, hokn⟩ := avOk_of (sh := sh) (m := (bdL xa k2).length) (i := i) (f := f) (part := (1 + p % nth sh f)) (by omega) hie (by omega) hshb (by omega) (by omega)
 refine go ?_
 refine t_conv underlying5 underlying3 rfl rfl rfl (IntWalk.i64_in _ (by omega)) ?_
 refine go ?_
 have D247 := ((hS.keep u191 (fun _ h => h)).keep u197 (fun h9 => show ¬ (bk188 ≤ gS) by have := hltS h9; omega))
 refine g_i f D247 (fun _ => ?_) (hj := (by omega))
 refine go ?_
 refine t_rem rfl rfl rfl rfl (by omega) (by omega) ?_
 iterate 8 refine st1 ?_
 refine t_same 283 (v := .int .i64 (f : Int)) rfl (congrArg (Value.int .i64) hf2) ?_
 refine go ?_
 refine x_l fun bk250 w251 ebk250 sbk250 B252 u253 => ?_
 have D255 := (hnt.keep u253 (fun _ h => h))
 refine t_append (z := .agg #[.int .i64 0, .int .i64 0, .int .i64 0]) (bytes := 24) (k := 3) (base := bk188) (⟨4, (f : Int), (1 + p % nth sh f)⟩ : Nt) underlying37 (by kernel_rfl) rfl (by decide) (fun _ => rfl) (by intro x; simp [encNt, Value.oneCell']) rfl rfl rfl rfl D255 B252 (by omega) (by omega) (by decide) (fun ao256 gb257 cp258 w259 A260 u261 gegb257 lngb257 => ?_)
 have zu261 := u261.size
 have lt_gb257 := A260.lt
 refine go ?_
 have hq1 : (vlN sh i ++ [(⟨4, (f : Int), (1 + p % nth sh f)⟩ : Nt)]).length ≤ 300 := Nat.le_trans hnl9 (by decide)
 have hq2 : (bdL xa k2).length = sh.length := by omega
 have hq3 : Sl encNt 3 w259 ao256 gb257 0 (vlN sh i ++ [(⟨4, (f : Int), (1 + p % nth sh f)⟩ : Nt)]) := (A260.sl (fun _ => rfl))
 have hq4 := Adjust_c (bdL xa k2).length (vlN sh i ++ [(⟨4, (f : Int), (1 + p % nth sh f)⟩ : Nt)]) ao256 gb257 0 cp258 sh (grL (bdL xa k2).length f (1 + p % nth sh f)) _ hq3 hq1 hokn hq2 hav hits hV32
 refine x_c func8 rfl rfl hq4 ?_
 rintro _ w265 ⟨⟨aA9, gA9, cA9, rfl, hA9⟩, u266⟩ zu266
 have hltA := hA9.lt
 have hdu := hav.due
 have hacl := acL_len (V := sh) (G := (grL (bdL xa k2).length f (1 + p % nth sh f))) sh.length
 have hgrl := grL_len (m := (bdL xa k2).length) (f := f) (part := (1 + p % nth sh f))
 iterate 20 refine st1 ?_
 refine t_same 302 (v := .bool false) rfl (congrArg Value.bool (decide_eq_false (fun h => h (by omega)))) ?_
 iterate 7 refine st1 ?_
 refine t_same 309 (v := .bool false) rfl (congrArg Value.bool (decide_eq_false (fun h => h (by omega)))) ?_
 refine go ?_
 refine x_l1 (fun _ => False) [17, 22] (fun (q : Nat) => [(25, .int .i64 (preS (duL sh (grL (bdL xa k2).length f (1 + p % nth sh f))) q - preS (grL (bdL xa k2).length f (1 + p % nth sh f)) q)), (26, .int .i64 (q : Int))]) (fun q w => (q ≤ sh.length)) (fun q => sh.length - q) 0 (Nat.zero_le _) ?_
 rintro q w275 hq u276 zu276 K274 hK274
 refine go ?_
 refine q_p (fun g314 => ?_) fun g314 => ?_
 ·
  have hp9 := hltS (by omega)
  have hp8 := hltA (by omega)
  have hac9 := acL_nth (V := sh) (G := (grL (bdL xa k2).length f (1 + p % nth sh f))) (j := q) (k := sh.length) (by omega)
  have hacv : (nth (acL sh (grL (bdL xa k2).length f (1 + p % nth sh f)) sh.length) q).v = nth sh q := by rw [hac9]
  have hacd : (nth (acL sh (grL (bdL xa k2).length f (1 + p % nth sh f)) sh.length) q).d = nth (duL sh (grL (bdL xa k2).length f (1 + p % nth sh f))) q := by rw [hac9]
  have hacb : (nth (acL sh (grL (bdL xa k2).length f (1 + p % nth sh f)) sh.length) q).b = nth (duL sh (grL (bdL xa k2).length f (1 + p % nth sh f))) q - nth (grL (bdL xa k2).length f (1 + p % nth sh f)) q := by rw [hac9]
  have hd9 := hdu.2.1 q (by omega)
  have hs9 := hshb q (by omega)
  have hg9 := hav.g q (by omega)
  have hgb := preS_bd hav.g (k := q) (by omega)
  have hdb := preS_bd (ws := (duL sh (grL (bdL xa k2).length f (1 + p % nth sh f)))) (B := 65280) (fun j hj => by have h1 := hdu.2.1 j (by omega); have h2 := hshb j (by omega); omega) (k := q) (by omega)
  refine go ?_
  refine c_drawnM follows (fun _ => False) (OTl [0, 2, 4, 6, 8, 10, 12, 14, 16, 18, 20, 22, 24, 26, 28, 30, 32, 34, 36, 38, 40, 42, 44, 46, 48, 50, 52, 54, 56, 58, 60]) (by kernel_rfl) fun w283 u284 => ?_
  have zu284 := u284.size
  refine go ?_
  have D286 := ((hA9.keep u276 (fun _ h => h)).keep u284 (fun _ h => h))
  refine y_i q D286 (fun _ => ?_)
  refine go ?_
  have D288 := (((((D247.keep u253 (fun _ h => h)).keep u261 (fun h9 => show ¬ ((gS = gn ∧ bk188 ≤ gS)) by have := hltS h9; omega)).keep u266 (fun _ h => h)).keep u276 (fun _ h => h)).keep u284 (fun _ h => h))
  refine y_i q D288 (fun _ => ?_)
  iterate 2 refine st1 ?_
  refine y_same 326 (v := .bool false) rfl (congrArg Value.bool (decide_eq_false (fun h => h (by omega)))) ?_
  refine go ?_
  refine y_i q D286 (fun _ => ?_)
  refine go ?_
  refine y_i q D286 (fun _ => ?_)
  iterate 3 refine st1 ?_
  refine y_same 338 (v := .bool false) rfl (congrArg Value.bool (decide_eq_false (by omega))) ?_
  refine go ?_
  refine y_i q D286 (fun _ => ?_)
  iterate 3 refine st1 ?_
  refine y_same 346 (v := .bool false) rfl (congrArg Value.bool (decide_eq_false (by omega))) ?_
  refine go ?_
  refine g_i q D286 (fun _ => ?_)
  refine go ?_
  exact hK274 (q + 1) (by omega) (hs := by exact ⟨(congrArg (fun z => some (Value.int .i64 z)) (by have h1 : preS (duL sh (grL (bdL xa k2).length f (1 + p % nth sh f))) (q + 1) = preS (duL sh (grL (bdL xa k2).length f (1 + p % nth sh f))) q + nth (duL sh (grL (bdL xa k2).length f (1 + p % nth sh f))) q := rfl; have h2 : preS (grL (bdL xa k2).length f (1 + p % nth sh f)) (q + 1) = preS (grL (bdL xa k2).length f (1 + p % nth sh f)) q + nth (grL (bdL xa k2).length f (1 + p % nth sh f)) q := rfl; omega)), rfl, rfl, rfl, trivial⟩)
 have hqe : q = sh.length := by omega
 have hz9 : preS (duL sh (grL (bdL xa k2).length f (1 + p % nth sh f))) q - preS (grL (bdL xa k2).length f (1 + p % nth sh f)) q = 0 := by
   have h1 := hdu.2.2
   rw [hav.len] at h1
   rw [hqe]
   omega
 iterate 10 refine st1 ?_
 refine t_same 356 (v := .bool true) rfl (congrArg Value.bool (decide_eq_true (by omega))) ?_
 refine go ?_
 refine x_c func4 rfl rfl (moorPays_c _) ?_
 rintro _ w296 ⟨rfl, u297⟩ zu297
 refine go ?_
 refine x_c func5 rfl rfl (moorShares_c _) ?_
 rintro _ w301 ⟨rfl, u302⟩ zu302
 refine go ?_
 refine f_1 results3 ?_
 exact ⟨rfl, u_d⟩

end Go.Proofs.YtjkpkbdoljjeiaaGreat
