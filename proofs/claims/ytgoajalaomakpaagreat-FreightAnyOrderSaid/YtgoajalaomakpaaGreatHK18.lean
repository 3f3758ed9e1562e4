/-
  Part 18 of the proof: contracts and plain laws. Conditions: none.
-/
import Derived.Test.YtgoajalaomakpaaGreatHK17
namespace Go.Proofs.YtgoajalaomakpaaGreat
open Go Go.RowKit Go.Proofs.Tryz

/-- A call in memory. -/
structure HCl where
  v : Cll
  ss : List T2
  ao : Option Addr
  g : Nat
  o : Nat
  cp : Nat
instance : Inhabited HCl := ⟨⟨default, [], none, 0, 0, 0⟩⟩
def encHCl (h : HCl) : List Value := [.int .u8 h.v.p0, .int .u8 h.v.p1, .int .u8 h.v.p2, .int .u16 h.v.t0, .int .u16 h.v.t1, .int .u16 h.v.t2, .int .u16 h.v.t3, .int .u16 h.v.t4, .int .u16 h.v.t5, .int .u16 h.v.n, .slice h.ao h.ss.length h.cp, .int .u16 h.v.e, .int .u16 h.v.v0, .int .u16 h.v.v1]
def clX (cls : List HCl) (j : Nat) : Cll := (nth cls j).v
def clS (cls : List HCl) (j : Nat) : List T2 := (nth cls j).ss
/-- Charters made of calls. -/
def MadeC (w : World) (cls : List HCl) (hs : List HC) (k : Nat) : Prop := hs.length = k ∧ ∀ i, i < k → (nth hs i).v = tmC (nth cls i).v ∧ (nth hs i).ws = tmW (nth cls i).v ∧ Sl encLow 2 w (nth hs i).ao (nth hs i).g (nth hs i).o (nth hs i).ws
theorem MadeC.next {w w' : World} {S : Nat → Prop} {cls : List HCl} {hs : List HC} {k : Nat} (h : MadeC w cls hs k) (u : Upd S w w') (hn : ∀ i, i < k → 0 < (nth hs i).ws.length → ¬ S (nth hs i).g) {x : HC} (hx : x.v = tmC (nth cls k).v ∧ x.ws = tmW (nth cls k).v) (h2 : Sl encLow 2 w' x.ao x.g x.o x.ws) : MadeC w' cls (hs ++ [x]) (k + 1) := by
  obtain ⟨h0, h1⟩ := h
  refine ⟨by rw [List.length_append, h0]; rfl, fun i hi => ?_⟩
  rcases Nat.lt_succ_iff_lt_or_eq.1 hi with q | rfl
  · rw [nth_snoc1 (by omega)]; exact ⟨(h1 i q).1, (h1 i q).2.1, (h1 i q).2.2.keep u (hn i q)⟩
  · rw [show nth (hs ++ [x]) i = x by rw [← h0]; exact nth_snoc2]; exact ⟨hx.1, hx.2, h2⟩
theorem MadeC.keep {w w' : World} {S : Nat → Prop} {cls : List HCl} {hs : List HC} {k : Nat} (h : MadeC w cls hs k) (u : Upd S w w') (hn : ∀ i, i < k → 0 < (nth hs i).ws.length → ¬ S (nth hs i).g) : MadeC w' cls hs k := ⟨h.1, fun i hi => ⟨(h.2 i hi).1, (h.2 i hi).2.1, (h.2 i hi).2.2.keep u (hn i hi)⟩⟩
theorem MadeC.copy {w w' : World} {cls : List HCl} {hs hs2 : List HC} {k : Nat} (h : MadeC w cls hs k) (hc : CopyC w' hs hs2 hs.length) : MadeC w' cls hs2 k := by
  obtain ⟨h0, h1⟩ := h
  obtain ⟨c0, c1⟩ := hc
  refine ⟨by omega, fun i hi => ?_⟩
  obtain ⟨a1, a2, a3⟩ := c1 i (by omega)
  obtain ⟨b1, b2, _⟩ := h1 i hi
  exact ⟨a1.trans b1, a2.trans b2, a3⟩
theorem MadeC.rows {w : World} {cls : List HCl} {hs : List HC} {k : Nat} (h : MadeC w cls hs k) : ∀ x ∈ hs, Sl encLow 2 w x.ao x.g x.o x.ws ∧ x.ws.length ≤ 1000000 := fun x hx => by
  obtain ⟨i, hi, rfl⟩ := mem_nth.1 hx
  have h1 := h.2 i (by rw [← h.1]; exact hi)
  exact ⟨h1.2.2, by rw [h1.2.1]; show 2 ≤ 1000000; decide⟩
theorem modN (a : Int) {n : Nat} (hn : 0 < n) : ∃ p : Nat, p < n ∧ a % (n : Int) = (p : Int) := by
  have h1 := Int.emod_nonneg a (show (n : Int) ≠ 0 by omega)
  have h2 := Int.emod_lt_of_pos a (show (0 : Int) < (n : Int) by omega)
  exact ⟨(a % (n : Int)).toNat, by omega, by omega⟩
theorem tmW_len (x : Cll) : (tmW x).length = 2 := rfl
set_option maxHeartbeats 4000000 in
theorem calls_c (cls : List HCl) (al : Option Addr) (bl ol cl : Nat) (cor : Bool) (w0 : World) (hc : Sl encHCl 14 w0 al bl ol cls) (hcl : cls.length ≤ 9223372036854775807) (hclw : ∀ h ∈ cls, Sl encU2 2 w0 h.ao h.g h.o h.ss ∧ h.ss.length ≤ 9223372036854775807 ∧ okCll h.v ∧ ∀ y ∈ h.ss, okU2 y) :
    CallsV Tryz.prog 20 [.slice al cls.length cl, .int .i64 3, .bool cor] w0 (fun v w' => (∃ hs ao g cp a2 g2 c2, v = .tuple #[.slice ao (List.length hs) cp, .slice a2 (List.length (rpC cor (clX cls) (clS cls) (min cls.length 3))) c2] ∧ Acc encHC 11 78 w0.heap.size w' ao g cp hs ∧ Acc encMsg 6 111 w0.heap.size w' a2 g2 c2 (rpC cor (clX cls) (clS cls) (min cls.length 3)) ∧ MadeC w' cls hs (min cls.length 3) ∧ (∀ i, i < min cls.length 3 → 0 < (nth hs i).ws.length → w0.heap.size ≤ (nth hs i).g ∧ (nth hs i).g ≠ g ∧ (nth hs i).g ≠ g2) ∧ g ≠ g2 ∧ w0.heap.size < w'.heap.size) ∧ Ext w0 w') := by
 refine f_n func20 ?_
 refine go ?_
 refine x_l fun bk3 w4 ebk3 sbk3 B5 u6 => ?_
 refine x_l fun bk8 w9 ebk8 sbk8 B10 u11 => ?_
 refine go ?_
 have B15 := (B5.kx u11)
 refine q_loop (γ := Nat × List HC × Option Addr × Nat × Nat × Option Addr × Nat × Nat) (fun gg => [(0, .slice al cls.length cl), (1, .int .i64 3), (2, .bool cor), (8, .slice gg.2.2.1 gg.2.1.length gg.2.2.2.2.1), (9, .slice gg.2.2.2.2.2.1 ((rpC cor (clX cls) (clS cls) gg.1).length) gg.2.2.2.2.2.2.2), (10, .int .i64 (gg.1 : Int))]) (fun gg w => Upd (fun i => w0.heap.size ≤ i) w9 w ∧ (gg.1 ≤ cls.length ∧ gg.1 ≤ 3) ∧ (Acc encHC 11 78 w0.heap.size w gg.2.2.1 gg.2.2.2.1 gg.2.2.2.2.1 gg.2.1) ∧ (Acc encMsg 6 111 w0.heap.size w gg.2.2.2.2.2.1 gg.2.2.2.2.2.2.1 gg.2.2.2.2.2.2.2 (rpC cor (clX cls) (clS cls) gg.1)) ∧ (MadeC w cls gg.2.1 gg.1) ∧ (∀ i, i < gg.1 → 0 < (nth gg.2.1 i).ws.length → w0.heap.size ≤ (nth gg.2.1 i).g ∧ (nth gg.2.1 i).g ≠ gg.2.2.2.1 ∧ (nth gg.2.1 i).g ≠ gg.2.2.2.2.2.2.1) ∧ (gg.2.2.2.1 ≠ gg.2.2.2.2.2.2.1)) (fun gg => 3 - gg.1) (0, [], some ⟨bk3, 0, none⟩, bk3, 0, some ⟨bk8, 0, none⟩, bk8, 0) ⟨rfl, rfl, rfl, rfl, rfl, rfl, trivial⟩ ⟨Upd.refl _ _, (by omega), (Acc.ofBlk (xs := ([] : List HC)) encHC 11 (fun _ => rfl) B15 (by omega) (by decide)), (Acc.ofBlk (xs := ([] : List Msg)) encMsg 6 (fun _ => rfl) B10 (by omega) (by decide)), ⟨rfl, fun i h => absurd h (Nat.not_lt_zero i)⟩, (fun i h => absurd h (Nat.not_lt_zero i)), (by show bk3 ≠ bk8; omega)⟩ ?_
 intro gg w17 hW K16 hK16
 obtain ⟨k, hs, ao, gq, cq, a2, g2, c2⟩ := gg
 change WC _ _ _ _ _ _ [(0, .slice al cls.length cl), (1, .int .i64 3), (2, .bool cor), (8, .slice ao hs.length cq), (9, .slice a2 ((rpC cor (clX cls) (clS cls) k).length) c2), (10, .int .i64 (k : Int))] _
 change Upd (fun i => w0.heap.size ≤ i) w9 w17 ∧ (k ≤ cls.length ∧ k ≤ 3) ∧ (Acc encHC 11 78 w0.heap.size w17 ao gq cq hs) ∧ (Acc encMsg 6 111 w0.heap.size w17 a2 g2 c2 (rpC cor (clX cls) (clS cls) k)) ∧ (MadeC w17 cls hs k) ∧ (∀ i, i < k → 0 < (nth hs i).ws.length → w0.heap.size ≤ (nth hs i).g ∧ (nth hs i).g ≠ gq ∧ (nth hs i).g ≠ g2) ∧ (gq ≠ g2) at hW
 obtain ⟨u18, I19, I20, I21, I22, I23, I24⟩ := hW
 have zu18 := u18.size
 have hk := I19; clear I19
 have hac := I20; clear I20
 have ham := I21; clear I21
 have hmd := I22; clear I22
 have hgo := I23; clear I23
 have hgg := I24; clear I24
 have lt_gq := hac.lt
 have lt_g2 := ham.lt
 have hcl9 := hmd.1
 have hrl := rpC_len (cor := cor) (X := (clX cls)) (S := (clS cls)) k
 refine st1 ?_
 refine x_k1 (fun _ => False) [0, 1, 2, 8, 9, 10] (fun (qa : Bool) => [(21, .bool qa)]) (fun qa w => (qa = true ↔ (k < cls.length ∧ k < 3))) (fun K31 hK31 => ?_) ?_
 ·
  refine go ?_
  refine t_splitp 17 rfl (fun g17 => ?_) (fun g17 => ?_)
  ·
   refine go ?_
   exact hK31 (decide ((k : Int) < 3)) (by rw [decide_eq_true_eq]; omega)
  refine go ?_
  exact hK31 false (⟨fun h => (by cases h), fun h => absurd h (by omega)⟩)
 rintro qa w32 hqa u33 zu33
 refine q_b (fun g21 => ?_) fun g21 => ?_
 ·
  have hqa9 := hqa.1 g21
  have hp9 := hc.lt (by omega)
  have hx9 := hclw (nth cls k) (nth_mem (by omega))
  have hrp9 := rpP_len (c := (k : Int)) (cor := cor) (x := (nth cls k).v) (ss := (nth cls k).ss)
  refine go ?_
  refine c_drawnM follows (fun i => (i = gq ∧ w0.heap.size ≤ i) ∨ (i = g2 ∧ w0.heap.size ≤ i)) (OTl [0, 2, 4, 6, 8, 16, 18, 20, 22, 24, 26, 28, 11, 13, 15, 31, 33, 34, 36]) (by kernel_rfl) fun w36 u37 => ?_
  have zu37 := u37.size
  have E38 := Sc.mk ((((((Upd.refl (fun _ => False) w0).nx u6).nx u11).next u18 (fun i hi (h : w0.heap.size ≤ i) => show False by first | omega | assumption)).nx u33).nx u37)
  refine go ?_
  refine y_i k (hc.keep E38.u (fun _ h => h)) (fun _ => ?_)
  refine go ?_
  refine y_i k (hc.keep E38.u (fun _ h => h)) (fun _ => ?_)
  refine go ?_
  refine x_c func30 rfl rfl (terms_c (nth cls k).v (nth cls k).ss ((nth cls k).ao) ((nth cls k).cp) _ hx9.2.2.1) ?_
  rintro _ w42 ⟨⟨gT, rfl, hgT, hT⟩, u43⟩ zu43
  have hlT := hT.lt (by rw [tmW_len]; omega)
  refine go ?_
  refine x_l fun bk46 w47 ebk46 sbk46 B48 u49 => ?_
  refine go ?_
  have D51 := ((((hac.keep u33 (fun _ h => h)).keep u37 (fun _ h => h)).keep u43 (fun _ h => h)).keep u49 (fun _ h => h))
  refine t_append (z := .agg #[.int .i64 0, .int .i64 0, .int .i64 0, .int .i64 0, .int .i64 0, .int .i64 0, .int .i64 0, .int .i64 0, .int .i64 0, .int .i64 0, .slice none 0 0]) (bytes := 104) (k := 11) (base := w0.heap.size) (⟨tmC (nth cls k).v, tmW (nth cls k).v, some ⟨gT, 0, none⟩, gT, 0, 2⟩ : HC) underlying52 (by kernel_rfl) rfl (by decide) (fun _ => rfl) (by intro x; simp [encHC, Value.oneCell']) rfl rfl rfl rfl D51 B48 (by omega) (by omega) (by decide) (fun ao52 gb53 cp54 w55 A56 u57 gegb53 lngb53 => ?_)
  have zu57 := u57.size
  have lt_gb53 := A56.lt
  refine go ?_
  refine x_c func26 rfl rfl (report_c (nth cls k).v (nth cls k).ss (nth cls k).ao (nth cls k).g (nth cls k).o (nth cls k).cp (k : Int) cor _ hx9.2.2.1 ((hclw (nth cls k) (nth_mem (by omega))).1.keep (((E38.u.nx u43).nx u49).next u57 (fun i hi h => by omega)) (fun _ h => h)) hx9.2.1 hx9.2.2.2 (by omega)) ?_
  rintro _ w60 ⟨⟨aR, gR, cR, rfl, hR, hgR, hzR⟩, u61⟩ zu61
  refine go ?_
  have D64 := ((((((ham.keep u33 (fun _ h => h)).keep u37 (fun _ h => h)).keep u43 (fun _ h => h)).keep u49 (fun _ h => h)).keep u57 (fun hb => show ¬ ((g2 = gq ∧ w0.heap.size ≤ g2)) by first | omega | assumption)).keep u61 (fun _ h => h))
  refine t_appendAll (enc := encMsg) (z := .agg #[.int .i64 0, .int .i64 0, .int .i64 0, .int .i64 0, .int .i64 0, .int .i64 0]) (bytes := 48) (k := 6) (base := w0.heap.size) (xs := (rpC cor (clX cls) (clS cls) k)) (ys := (rpP (k : Int) cor (nth cls k).v (nth cls k).ss)) underlying53 (by kernel_rfl) rfl (by decide) (fun _ => rfl) (by intro x; simp [encMsg, Value.oneCell']) rfl rfl rfl rfl D64 hR (by omega) (by omega) (by omega) (by decide) (fun ao65 gb66 cp67 w68 A69 u70 gegb66 lngb66 => ?_)
  have zu70 := u70.size
  have lt_gb66 := A69.lt
  refine go ?_
  have D72 := ((((hT.keep u49 (fun _ h => h)).keep u57 (fun _ => show ¬ ((gT = gq ∧ w0.heap.size ≤ gT)) by omega)).keep u61 (fun _ h => h)).keep u70 (fun _ => show ¬ ((gT = g2 ∧ w0.heap.size ≤ gT)) by omega))
  have hU9 := ((((((((Upd.refl (fun i => (i = gq ∧ w0.heap.size ≤ i) ∨ (i = g2 ∧ w0.heap.size ≤ i)) w17).nx u33).nx u37).nx u43).nx u49).next u57 (fun i hi h => by omega)).nx u61).next u70 (fun i hi h => by omega))
  have hN9 := D72
  have hgo9 : ∀ i, i < k + 1 → 0 < (nth (hs ++ [(⟨tmC (nth cls k).v, tmW (nth cls k).v, some ⟨gT, 0, none⟩, gT, 0, 2⟩ : HC)]) i).ws.length → w0.heap.size ≤ (nth (hs ++ [(⟨tmC (nth cls k).v, tmW (nth cls k).v, some ⟨gT, 0, none⟩, gT, 0, 2⟩ : HC)]) i).g ∧ (nth (hs ++ [(⟨tmC (nth cls k).v, tmW (nth cls k).v, some ⟨gT, 0, none⟩, gT, 0, 2⟩ : HC)]) i).g ≠ gb53 ∧ (nth (hs ++ [(⟨tmC (nth cls k).v, tmW (nth cls k).v, some ⟨gT, 0, none⟩, gT, 0, 2⟩ : HC)]) i).g ≠ gb66 := fun i hi h9 => by
    rcases Nat.lt_succ_iff_lt_or_eq.1 hi with q | q
    · rw [nth_snoc1 (by omega)] at h9 ⊢; have h8 := hgo i q h9; have h7 := (hmd.2 i q).2.2.lt h9; omega
    · rw [q] at h9 ⊢; have e9 := nth_snoc2 (xs := hs) (y := (⟨tmC (nth cls k).v, tmW (nth cls k).v, some ⟨gT, 0, none⟩, gT, 0, 2⟩ : HC)); rw [hcl9] at e9; rw [e9]; show w0.heap.size ≤ gT ∧ gT ≠ gb53 ∧ gT ≠ gb66; omega
  have hgg9 : gb53 ≠ gb66 := by omega
  have D73 := ((A56.keep u61 (fun _ h => h)).keep u70 (fun hb => show ¬ ((gb53 = g2 ∧ w0.heap.size ≤ gb53)) by first | omega | assumption))
  exact hK16 (k + 1, (hs ++ [(⟨tmC (nth cls k).v, tmW (nth cls k).v, some ⟨gT, 0, none⟩, gT, 0, 2⟩ : HC)]), ao52, gb53, cp54, ao65, gb66, cp67) _ _ (by show 3 - (k + 1) < 3 - k; omega) ⟨rfl, rfl, rfl, rfl, rfl, rfl, trivial⟩ ⟨(((((((u18.nx u33).nx u37).nx u43).nx u49).next u57 (fun i hi (h : (i = gq ∧ w0.heap.size ≤ i)) => show w0.heap.size ≤ i by first | omega | assumption)).nx u61).next u70 (fun i hi (h : (i = g2 ∧ w0.heap.size ≤ i)) => show w0.heap.size ≤ i by first | omega | assumption)), (by omega), D73, A69, (MadeC.next hmd hU9 (fun i hi h9 q => by have := hgo i hi h9; omega) ⟨rfl, rfl⟩ hN9), hgo9, hgg9⟩
 have hqb9 : ¬ (k < cls.length ∧ k < 3) := fun q => by rw [hqa.2 q] at g21; cases g21
 have hkn : k = min cls.length 3 := by omega
 refine go ?_
 refine f_ret2 (v1 := .slice ao hs.length cq) (v2 := .slice a2 ((rpC cor (clX cls) (clS cls) k).length) c2) results20 rfl rfl ?_
 have D75 := (hac.keep u33 (fun _ h => h))
 have D76 := (ham.keep u33 (fun _ h => h))
 have hA9 := D75
 have hM9 := D76
 have hD9 := (hmd.keep u33 (fun _ _ _ h => h))
 rw [hkn] at hM9 hD9 hgo ⊢
 exact ⟨⟨hs, _, _, _, _, _, _, rfl, hA9, hM9, hD9, hgo, hgg, by omega⟩, u_d⟩

set_option maxHeartbeats 4000000 in
theorem mixed_c (l : List Msg) (al : Option Addr) (bl ol cl : Nat) (bs : List Int) (ab : Option Addr) (bb ob cb : Nat) (w0 : World) (hl : Sl encMsg 6 w0 al bl ol l) (hl100 : l.length ≤ 100) (hb : Sl encU8 1 w0 ab bb ob bs) (hbl : bs.length ≤ 9223372036854775807) (hbs : ∀ x ∈ bs, 0 ≤ x ∧ x ≤ 255) (hpos : 0 < w0.heap.size) :
    CallsV Tryz.prog 37 [.slice al l.length cl, .slice ab bs.length cb] w0 (fun v w' => (∃ xs ao g cp, v = .slice ao (List.length xs) cp ∧ Acc encMsg 6 111 w0.heap.size w' ao g cp xs ∧ xs.length ≤ 100 ∧ ∀ y, y ∈ xs ↔ y ∈ l) ∧ Ext w0 w') := by
 refine f_n func37 ?_
 refine go ?_
 refine x_c func25 rfl rfl (messages_c l al bl ol cl _ hl (by omega) hpos) ?_
 rintro _ w4 ⟨⟨aM, gM, cM, rfl, hM⟩, u5⟩ zu5
 have lt_gM := hM.lt
 refine go ?_
 refine x_l5 (fun i => w0.heap.size ≤ i) [1] (fun (k : Nat) (xs : List Msg) (ao : Option Addr) (gq : Nat) (cq : Nat) => [(5, .slice ao xs.length cq), (6, .int .i64 (k : Int))]) (fun k xs ao gq cq w => (k ≤ bs.length ∧ k ≤ 40) ∧ (Acc encMsg 6 111 w0.heap.size w ao gq cq xs) ∧ (xs.length ≤ 100 ∧ ∀ y, y ∈ xs ↔ y ∈ l)) (fun k xs ao gq cq => 40 - k) 0 l aM gM cM ⟨(by omega), hM, ⟨hl100, fun _ => Iff.rfl⟩⟩ ?_
 rintro k xs ao gq cq w11 ⟨hk, hac, hmx⟩ u12 zu12 K10 hK10
 have lt_gq := hac.lt
 refine st1 ?_
 refine x_k1 (fun _ => False) [1, 5, 6] (fun (qa : Bool) => [(23, .bool qa)]) (fun qa w => (qa = true ↔ ((k < bs.length ∧ k < 40) ∧ 0 < xs.length))) (fun K19 hK19 => ?_) ?_
 ·
  refine go ?_
  refine t_splitp 15 rfl (fun g15 => ?_) (fun g15 => ?_)
  ·
   refine go ?_
   refine t_splitp 19 rfl (fun g19 => ?_) (fun g19 => ?_)
   ·
    refine go ?_
    exact hK19 (decide (0 < (xs.length : Int))) (by rw [decide_eq_true_eq]; omega)
   refine go ?_
   exact hK19 false (⟨fun h => (by cases h), fun h => absurd h (by omega)⟩)
  refine go ?_
  exact hK19 false (⟨fun h => (by cases h), fun h => absurd h (by omega)⟩)
 rintro qa w20 hqa u21 zu21
 refine q_b (fun g23 => ?_) fun g23 => ?_
 ·
  have hqa9 := hqa.1 g23
  have hp9 := hb.lt (by omega)
  have hb9 := hbs _ (nth_mem (xs := bs) (i := k) (by omega))
  obtain ⟨p, hp, ep⟩ := modN (nth bs k) (n := xs.length) (by omega)
  obtain ⟨q, hq, eq⟩ := modN (((k : Int) * 7) + 3) (n := xs.length) (by omega)
  have hge9 := hac.ge (by omega)
  have hsl9 : (xs.set p (nth xs q)).length = xs.length := List.length_set ..
  refine go ?_
  refine c_drawnM follows (fun _ => False) (OTl [0, 2, 4, 6, 8, 10, 12, 14, 16, 18, 20, 22, 24, 26, 28, 30]) (by kernel_rfl) fun w25 u26 => ?_
  have zu26 := u26.size
  have E27 := Sc.mk (((((Upd.refl (fun _ => False) w0).nx u5).next u12 (fun i hi (h : w0.heap.size ≤ i) => show False by first | omega | assumption)).nx u21).nx u26)
  refine go ?_
  refine y_i k (hb.keep E27.u (fun _ h => h)) (fun _ => ?_)
  refine go ?_
  refine y_conv underlying5 underlying3 rfl rfl rfl (IntWalk.i64_in _ (by omega)) ?_
  refine go ?_
  refine y_rem rfl rfl rfl rfl (by omega) (by omega) ?_
  refine go ?_
  refine y_rem rfl rfl rfl rfl (by omega) (by omega) ?_
  refine st1 ?_
  refine y_same 7 (v := .int .i64 (p : Int)) rfl (congrArg (Value.int .i64) ep) ?_
  refine st1 ?_
  refine y_same 8 (v := .int .i64 (q : Int)) rfl (congrArg (Value.int .i64) eq) ?_
  refine go ?_
  refine c_drawnM follows (fun i => i = gq) (.look 0 (.look 1 (.look 2 (.look 3 (.look 4 (.look 5 (.look 6 (.look 8 (.look 9 (.look 10 (.act 7 (.act 11 (.look 12 (.act 13 (.act 14 (.act 15 .done .stop) .stop) .stop)) .stop) (.act 11 (.act 7 (.look 12 (.act 13 (.act 14 (.act 15 .done .stop) .stop) .stop)) .stop) .stop)))))))))))) (by kernel_rfl) fun w30 u31 => ?_
  have zu31 := u31.size
  have E32 := Sc.mk (E27.u.nx u31)
  refine go ?_
  have D33 := (((hac.keep u21 (fun _ h => h)).keep u26 (fun _ h => h)).keep u31 (fun _ h => h))
  refine y_i q (D33.sl (fun _ => rfl)) (fun _ => ?_)
  refine go ?_
  refine y_i p (D33.sl (fun _ => rfl)) (fun _ => ?_)
  refine s_or ?_ ?_
  ·
   refine go ?_
   refine y_i p (D33.sl (fun _ => rfl)) (fun _ => ?_)
   refine go ?_
   refine t_storeA (vs := [.int .i64 ((nth xs q).c), .int .i64 ((nth xs q).n), .int .i64 ((nth xs q).r), .int .i64 ((nth xs q).k), .int .i64 ((nth xs q).m), .int .i64 ((nth xs q).v)]) (j := p) (o' := 0) (k := 6) (nth xs q) (fun _ => rfl) sizeOf111 rfl rfl (by omega) rfl D33 (by first | omega | (simp only [List.length_set, eRuns_len]; omega)) rfl rfl (by decide) (by simp [Value.oneCell']) rfl (fun w37 R39 u38 => ?_)
   have zu38 := u38.size
   refine go ?_
   refine g_i q (R39.sl (fun _ => rfl)) (fun _ => ?_)
   refine go ?_
   refine t_storeA (vs := [.int .i64 ((nth xs p).c), .int .i64 ((nth xs p).n), .int .i64 ((nth xs p).r), .int .i64 ((nth xs p).k), .int .i64 ((nth xs p).m), .int .i64 ((nth xs p).v)]) (j := q) (o' := 0) (k := 6) (nth xs p) (fun _ => rfl) sizeOf111 rfl rfl (by omega) rfl R39 (by first | omega | (simp only [List.length_set, eRuns_len]; omega)) rfl rfl (by decide) (by simp [Value.oneCell']) rfl (fun w42 R44 u43 => ?_)
   have zu43 := u43.size
   refine go ?_
   obtain ⟨zs, ez⟩ : ∃ zs, zs = ((xs.set p (nth xs q)).set q (nth xs p)) := ⟨_, rfl⟩
   have hzl : zs.length = xs.length := by rw [ez, List.length_set, List.length_set]
   have hzm : ∀ y, y ∈ zs ↔ y ∈ l := fun y => by rw [ez]; exact (mem_swap hp hq).trans (hmx.2 y)
   have hza : ∀ y, y ∈ zs ++ [nth zs p] ↔ y ∈ l := fun y => by
     rw [List.mem_append, List.mem_singleton, hzm]
     exact ⟨fun h => h.elim id (fun e => by rw [e]; exact (hzm _).1 (nth_mem (by omega))), .inl⟩
   rw [← ez] at R44
   refine t_same 5 (v := .slice ao zs.length cq) rfl (by rw [hzl]) ?_
   have lt_gq := R44.lt
   refine go ?_
   refine g_i k (hb.keep ((E32.u.next u38 (fun i hi h => by omega)).next u43 (fun i hi h => by omega)) (fun _ h => h)) (fun _ => ?_)
   refine go ?_
   refine t_rem8 rfl rfl rfl rfl (by omega) (by omega) ?_
   refine go ?_
   refine t_splitp 60 rfl (fun g60 => ?_) (fun g60 => ?_)
   ·
    refine go ?_
    refine q_p (fun g64 => ?_) fun g64 => ?_
    ·
     refine go ?_
     refine g_i p (R44.sl (fun _ => rfl)) (fun _ => ?_)
     refine go ?_
     refine x_l fun bk49 w50 ebk49 sbk49 B51 u52 => ?_
     have D54 := (R44.keep u52 (fun _ h => h))
     refine t_append (z := .agg #[.int .i64 0, .int .i64 0, .int .i64 0, .int .i64 0, .int .i64 0, .int .i64 0]) (bytes := 48) (k := 6) (base := w0.heap.size) (nth zs p) underlying53 (by kernel_rfl) rfl (by decide) (fun _ => rfl) (by intro x; simp [encMsg, Value.oneCell']) rfl rfl rfl rfl D54 B51 (by omega) (by omega) (by decide) (fun ao55 gb56 cp57 w58 A59 u60 gegb56 lngb56 => ?_)
     have zu60 := u60.size
     have lt_gb56 := A59.lt
     refine go ?_
     exact hK10 (k + 1) (zs ++ [(nth zs p)]) ao55 gb56 cp57 ⟨(by omega), A59, ⟨by rw [List.length_append, List.length_singleton]; omega, hza⟩⟩ (hu := (((((((u12.nx u21).nx u26).nx u31).next u38 (fun i hi (h : i = gq) => show w0.heap.size ≤ i by first | omega | assumption)).next u43 (fun i hi (h : i = gq) => show w0.heap.size ≤ i by first | omega | assumption)).nx u52).next u60 (fun i hi (h : (i = gq ∧ w0.heap.size ≤ i)) => show w0.heap.size ≤ i by first | omega | assumption)))
    refine go ?_
    exact hK10 (k + 1) zs ao gq cq ⟨(by omega), R44, ⟨by omega, hzm⟩⟩ (hu := (((((u12.nx u21).nx u26).nx u31).next u38 (fun i hi (h : i = gq) => show w0.heap.size ≤ i by first | omega | assumption)).next u43 (fun i hi (h : i = gq) => show w0.heap.size ≤ i by first | omega | assumption)))
   refine go ?_
   exact hK10 (k + 1) zs ao gq cq ⟨(by omega), R44, ⟨by omega, hzm⟩⟩ (hu := (((((u12.nx u21).nx u26).nx u31).next u38 (fun i hi (h : i = gq) => show w0.heap.size ≤ i by first | omega | assumption)).next u43 (fun i hi (h : i = gq) => show w0.heap.size ≤ i by first | omega | assumption)))
  refine go ?_
  refine y_i p (D33.sl (fun _ => rfl)) (fun _ => ?_)
  refine go ?_
  refine t_storeA (vs := [.int .i64 ((nth xs q).c), .int .i64 ((nth xs q).n), .int .i64 ((nth xs q).r), .int .i64 ((nth xs q).k), .int .i64 ((nth xs q).m), .int .i64 ((nth xs q).v)]) (j := p) (o' := 0) (k := 6) (nth xs q) (fun _ => rfl) sizeOf111 rfl rfl (by omega) rfl D33 (by first | omega | (simp only [List.length_set, eRuns_len]; omega)) rfl rfl (by decide) (by simp [Value.oneCell']) rfl (fun w63 R65 u64 => ?_)
  have zu64 := u64.size
  refine go ?_
  refine g_i q (R65.sl (fun _ => rfl)) (fun _ => ?_)
  refine go ?_
  refine t_storeA (vs := [.int .i64 ((nth xs p).c), .int .i64 ((nth xs p).n), .int .i64 ((nth xs p).r), .int .i64 ((nth xs p).k), .int .i64 ((nth xs p).m), .int .i64 ((nth xs p).v)]) (j := q) (o' := 0) (k := 6) (nth xs p) (fun _ => rfl) sizeOf111 rfl rfl (by omega) rfl R65 (by first | omega | (simp only [List.length_set, eRuns_len]; omega)) rfl rfl (by decide) (by simp [Value.oneCell']) rfl (fun w68 R70 u69 => ?_)
  have zu69 := u69.size
  refine go ?_
  obtain ⟨zs, ez⟩ : ∃ zs, zs = ((xs.set p (nth xs q)).set q (nth xs p)) := ⟨_, rfl⟩
  have hzl : zs.length = xs.length := by rw [ez, List.length_set, List.length_set]
  have hzm : ∀ y, y ∈ zs ↔ y ∈ l := fun y => by rw [ez]; exact (mem_swap hp hq).trans (hmx.2 y)
  have hza : ∀ y, y ∈ zs ++ [nth zs p] ↔ y ∈ l := fun y => by
    rw [List.mem_append, List.mem_singleton, hzm]
    exact ⟨fun h => h.elim id (fun e => by rw [e]; exact (hzm _).1 (nth_mem (by omega))), .inl⟩
  rw [← ez] at R70
  refine t_same 5 (v := .slice ao zs.length cq) rfl (by rw [hzl]) ?_
  have lt_gq := R70.lt
  refine go ?_
  refine g_i k (hb.keep ((E32.u.next u64 (fun i hi h => by omega)).next u69 (fun i hi h => by omega)) (fun _ h => h)) (fun _ => ?_)
  refine go ?_
  refine t_rem8 rfl rfl rfl rfl (by omega) (by omega) ?_
  refine go ?_
  refine t_splitp 60 rfl (fun g60 => ?_) (fun g60 => ?_)
  ·
   refine go ?_
   refine q_p (fun g64 => ?_) fun g64 => ?_
   ·
    refine go ?_
    refine g_i p (R70.sl (fun _ => rfl)) (fun _ => ?_)
    refine go ?_
    refine x_l fun bk75 w76 ebk75 sbk75 B77 u78 => ?_
    have D80 := (R70.keep u78 (fun _ h => h))
    refine t_append (z := .agg #[.int .i64 0, .int .i64 0, .int .i64 0, .int .i64 0, .int .i64 0, .int .i64 0]) (bytes := 48) (k := 6) (base := w0.heap.size) (nth zs p) underlying53 (by kernel_rfl) rfl (by decide) (fun _ => rfl) (by intro x; simp [encMsg, Value.oneCell']) rfl rfl rfl rfl D80 B77 (by omega) (by omega) (by decide) (fun ao81 gb82 cp83 w84 A85 u86 gegb82 lngb82 => ?_)
    have zu86 := u86.size
    have lt_gb82 := A85.lt
    refine go ?_
    exact hK10 (k + 1) (zs ++ [(nth zs p)]) ao81 gb82 cp83 ⟨(by omega), A85, ⟨by rw [List.length_append, List.length_singleton]; omega, hza⟩⟩ (hu := (((((((u12.nx u21).nx u26).nx u31).next u64 (fun i hi (h : i = gq) => show w0.heap.size ≤ i by first | omega | assumption)).next u69 (fun i hi (h : i = gq) => show w0.heap.size ≤ i by first | omega | assumption)).nx u78).next u86 (fun i hi (h : (i = gq ∧ w0.heap.size ≤ i)) => show w0.heap.size ≤ i by first | omega | assumption)))
   refine go ?_
   exact hK10 (k + 1) zs ao gq cq ⟨(by omega), R70, ⟨by omega, hzm⟩⟩ (hu := (((((u12.nx u21).nx u26).nx u31).next u64 (fun i hi (h : i = gq) => show w0.heap.size ≤ i by first | omega | assumption)).next u69 (fun i hi (h : i = gq) => show w0.heap.size ≤ i by first | omega | assumption)))
  refine go ?_
  exact hK10 (k + 1) zs ao gq cq ⟨(by omega), R70, ⟨by omega, hzm⟩⟩ (hu := (((((u12.nx u21).nx u26).nx u31).next u64 (fun i hi (h : i = gq) => show w0.heap.size ≤ i by first | omega | assumption)).next u69 (fun i hi (h : i = gq) => show w0.heap.size ≤ i by first | omega | assumption)))
 refine go ?_
 refine f_1 results37 ?_
 have D89 := (hac.keep u21 (fun _ h => h))
 exact ⟨⟨xs, _, _, _, rfl, D89, hmx⟩, u_d⟩

end Go.Proofs.YtgoajalaomakpaaGreat
