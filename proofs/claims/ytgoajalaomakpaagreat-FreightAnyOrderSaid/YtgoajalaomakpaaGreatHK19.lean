/-
  Part 19 of the proof: contracts and plain laws. Conditions: none.
-/
import Derived.Test.YtgoajalaomakpaaGreatHK18
namespace Go.Proofs.YtgoajalaomakpaaGreat
open Go Go.RowKit Go.Proofs.Tryz

/-- The messages of one charter among the first ones. -/
def mnI (l : List Msg) (i k : Nat) : List Msg := (l.take k).filter fun m => decide (m.c = (i : Int))
theorem mnI_t {l : List Msg} {i k : Nat} (hk : k < l.length) (h : (nth l k).c = (i : Int)) : mnI l i (k + 1) = mnI l i k ++ [nth l k] := by
  unfold mnI
  rw [take_nth hk, List.filter_append, List.filter_cons, if_pos (decide_eq_true h)]; rfl
theorem mnI_f {l : List Msg} {i k : Nat} (hk : k < l.length) (h : ¬ (nth l k).c = (i : Int)) : mnI l i (k + 1) = mnI l i k := by
  unfold mnI
  rw [take_nth hk, List.filter_append, List.filter_cons, if_neg (by rw [decide_eq_true_eq]; exact h)]; simp
theorem mnI_len {l : List Msg} {i k : Nat} : (mnI l i k).length ≤ l.length := by
  unfold mnI
  have := List.length_filter_le (fun m : Msg => decide (m.c = (i : Int))) (l.take k)
  rw [List.length_take] at this
  omega
theorem mnI_all {l : List Msg} {i k : Nat} (hk : k = l.length) : mnI l i k = l.filter fun m => decide (m.c = (i : Int)) := by
  unfold mnI
  rw [hk, List.take_length]
set_option maxHeartbeats 4000000 in
theorem FreightAnyOrder_c (cls : List HCl) (al : Option Addr) (bl ol cl : Nat) (fs : List T2) (af : Option Addr) (bf of_ cf : Nat) (bs : List Int) (ab : Option Addr) (bb ob cb : Nat) (w0 : World) (hc : Sl encHCl 14 w0 al bl ol cls) (hcl : cls.length ≤ 9223372036854775807) (hclw : ∀ h ∈ cls, Sl encU2 2 w0 h.ao h.g h.o h.ss ∧ h.ss.length ≤ 9223372036854775807 ∧ okCll h.v ∧ ∀ y ∈ h.ss, okU2 y) (hf : Sl encX2 2 w0 af bf of_ fs) (hfl : fs.length ≤ 9223372036854775807) (hfs : ∀ x ∈ fs, okX2 x) (hb : Sl encU8 1 w0 ab bb ob bs) (hbl : bs.length ≤ 9223372036854775807) (hbs : ∀ x ∈ bs, 0 ≤ x ∧ x ≤ 255) :
    CallsV Tryz.prog 10 [.slice al cls.length cl, .slice af fs.length cf, .slice ab bs.length cb] w0 (fun v w' => v = .bool true ∧ Ext w0 w') := by
 have hxs : OkXS (clX cls) (clS cls) (min cls.length 3) := fun j hj => ⟨(hclw _ (nth_mem (by omega))).2.2.1, (hclw _ (nth_mem (by omega))).2.2.2⟩
 have hfc := spL_chk hfs
 have hfn := (spL_ok hfs).1
 refine f_n func10 ?_
 refine go ?_
 refine x_c func20 rfl rfl (calls_c cls al bl ol cl true _ hc hcl hclw) ?_
 rintro _ w5 ⟨⟨hsQ3, ahQ3, ghQ3, chQ3, amQ3, gmQ3, cmQ3, rfl, hHQ3, hMQ3, hdQ3, hgoQ3, hggQ3, hszQ3⟩, u6⟩ zu6
 have E8 := Sc.mk ((Upd.refl (fun _ => False) w0).nx u6)
 have lt_ghQ3 := hHQ3.lt
 have lt_gmQ3 := hMQ3.lt
 have hhlQ3 := hdQ3.1
 have hmlQ3 := rpC_len (cor := true) (X := (clX cls)) (S := (clS cls)) (min cls.length 3)
 have hltQ3 : ∀ i, i < (min cls.length 3) → 0 < (nth hsQ3 i).ws.length → (nth hsQ3 i).g < w5.heap.size := fun i hi h9 => (hdQ3.2 i hi).2.2.lt h9
 refine go ?_
 refine x_c func20 rfl rfl (calls_c cls al bl ol cl false _ (hc.keep E8.u (fun _ h => h)) hcl (fun h hh => ⟨(hclw h hh).1.keep E8.u (fun _ h => h), (hclw h hh).2⟩)) ?_
 rintro _ w12 ⟨⟨hsQ10, ahQ10, ghQ10, chQ10, amQ10, gmQ10, cmQ10, rfl, hHQ10, hMQ10, hdQ10, hgoQ10, hggQ10, hszQ10⟩, u13⟩ zu13
 have E15 := Sc.mk (E8.u.nx u13)
 have lt_ghQ10 := hHQ10.lt
 have lt_gmQ10 := hMQ10.lt
 have hhlQ10 := hdQ10.1
 have hmlQ10 := rpC_len (cor := false) (X := (clX cls)) (S := (clS cls)) (min cls.length 3)
 have hltQ10 : ∀ i, i < (min cls.length 3) → 0 < (nth hsQ10 i).ws.length → (nth hsQ10 i).g < w12.heap.size := fun i hi h9 => (hdQ10.2 i hi).2.2.lt h9
 refine go ?_
 have D17 := (hMQ3.keep u13 (fun _ h => h))
 refine x_c func37 rfl rfl (mixed_c (rpC true (clX cls) (clS cls) (min cls.length 3)) amQ3 gmQ3 0 cmQ3 bs ab bb ob cb _ (D17.sl (fun _ => rfl)) (by omega) (hb.keep E15.u (fun _ h => h)) hbl hbs (by omega)) ?_
 rintro _ w19 ⟨⟨xsX, aX, gX, cX, rfl, hX, hXl, hXm⟩, u20⟩ zu20
 have lt_gX := hX.lt
 have hcX := (rpC_cov (cor := true) (X := (clX cls)) (S := (clS cls)) (n := (min cls.length 3))).same hXm
 refine go ?_
 refine x_c func21 rfl rfl (spans_c fs af bf of_ cf _ (hf.keep (E15.u.nx u20) (fun _ h => h)) (by omega) hfs) ?_
 rintro _ w25 ⟨⟨aF23, gF23, cF23, rfl, hF23, hgF23, hzF23⟩, u26⟩ zu26
 have hlF23 := hF23.lt
 iterate 10 refine st1 ?_
 refine t_same 54 (v := .bool false) rfl (congrArg Value.bool (decide_eq_false (by omega))) ?_
 refine go ?_
 have D33 := ((D17.keep u20 (fun _ h => h)).keep u26 (fun _ h => h))
 refine x_c func25 rfl rfl (messages_c (rpC true (clX cls) (clS cls) (min cls.length 3)) amQ3 gmQ3 0 cmQ3 _ (D33.sl (fun _ => rfl)) (by omega) (by omega)) ?_
 rintro _ w35 ⟨⟨aM32, gM32, cM32, rfl, hM32⟩, u36⟩ zu36
 have lt_gM32 := hM32.lt
 refine x_c func33 rfl rfl (Facts_c (rpC true (clX cls) (clS cls) (min cls.length 3)) aM32 gM32 0 cM32 _ (hM32.sl (fun _ => rfl)) (by omega) (by omega)) ?_
 rintro _ w41 ⟨⟨oZ39, aoZ39, gZ39, cZ39, eZ39, rfl, haZ39, hRZ39⟩, u42⟩ zu42
 obtain rfl := Cov.err (rpC_cov (cor := true)) hxs (by omega) (by omega) hRZ39
 have lt_gZ39 := haZ39.lt
 have hflZ39 := hRZ39.facts.2.1
 refine go ?_
 have D47 := (((hX.keep u26 (fun _ h => h)).keep u36 (fun _ h => h)).keep u42 (fun _ h => h))
 refine x_c func25 rfl rfl (messages_c xsX aX gX 0 cX _ (D47.sl (fun _ => rfl)) (by omega) (by omega)) ?_
 rintro _ w49 ⟨⟨aM46, gM46, cM46, rfl, hM46⟩, u50⟩ zu50
 have lt_gM46 := hM46.lt
 refine x_c func33 rfl rfl (Facts_c xsX aM46 gM46 0 cM46 _ (hM46.sl (fun _ => rfl)) (by omega) (by omega)) ?_
 rintro _ w55 ⟨⟨oZ53, aoZ53, gZ53, cZ53, eZ53, rfl, haZ53, hRZ53⟩, u56⟩ zu56
 obtain rfl := Cov.err hcX hxs (by omega) (by omega) hRZ53
 have lt_gZ53 := haZ53.lt
 have hflZ53 := hRZ53.facts.2.1
 refine go ?_
 have D61 := ((haZ39.keep u50 (fun _ h => h)).keep u56 (fun _ h => h))
 refine x_c func34 rfl rfl (same_c oZ39 aoZ39 gZ39 0 cZ39 oZ53 aoZ53 gZ53 0 cZ53 _ (D61.sl (fun _ => rfl)) (by omega) (haZ53.sl (fun _ => rfl)) (by omega)) ?_
 rintro _ w63 ⟨rfl, u64⟩ zu64
 refine t_same 77 (v := .bool true) rfl (congrArg Value.bool (decide_eq_true (RdR.uniq hRZ39 hRZ53 (fun y => (hXm y).symm)))) ?_
 refine go ?_
 obtain ⟨hfa1, hfa2⟩ := Cov.facts (rpC_cov (cor := true)) hxs (by omega) hRZ39
 have hnd := rpC_nodup hxs (by omega)
 refine x_l1 (fun _ => False) [7, 8, 10, 11, 12, 13] (fun (i : Nat) => [(17, .int .i64 (i : Int))]) (fun i w => (i ≤ oZ39.length)) (fun i => oZ39.length - i) 0 (by omega) ?_
 rintro i w70 hi u71 zu71 K69 hK69
 refine go ?_
 refine q_p (fun g83 => ?_) fun g83 => ?_
 ·
  refine go ?_
  refine x_l1 (fun _ => False) [7, 8, 10, 11, 12, 13, 17] (fun (k : Nat) => [(18, .int .i64 (fdK (nth oZ39 i) (rpC false (clX cls) (clS cls) (min cls.length 3)) k)), (19, .int .i64 (k : Int))]) (fun k w => (k ≤ (rpC false (clX cls) (clS cls) (min cls.length 3)).length)) (fun k => (rpC false (clX cls) (clS cls) (min cls.length 3)).length - k) 0 (by omega) ?_
  rintro k w80 hk u81 zu81 K79 hK79
  refine go ?_
  refine q_p (fun g89 => ?_) fun g89 => ?_
  ·
   have hfd := fdK_bd (x := nth oZ39 i) (l := (rpC false (clX cls) (clS cls) (min cls.length 3))) (k := k)
   refine go ?_
   refine c_drawnM follows (fun _ => False) (OTl [0, 2, 4, 6, 8, 10, 12, 14, 16]) (by kernel_rfl) fun w87 u88 => ?_
   have zu88 := u88.size
   refine go ?_
   have D90 := ((((D61.keep u64 (fun _ h => h)).keep u71 (fun _ h => h)).keep u81 (fun _ h => h)).keep u88 (fun _ h => h))
   refine y_i i (D90.sl (fun _ => rfl)) (fun _ => ?_)
   refine go ?_
   have D92 := ((((((((((hMQ10.keep u20 (fun _ h => h)).keep u26 (fun _ h => h)).keep u36 (fun _ h => h)).keep u42 (fun _ h => h)).keep u50 (fun _ h => h)).keep u56 (fun _ h => h)).keep u64 (fun _ h => h)).keep u71 (fun _ h => h)).keep u81 (fun _ h => h)).keep u88 (fun _ h => h))
   refine y_i k (D92.sl (fun _ => rfl)) (fun _ => ?_)
   refine go ?_
   refine y_eqS (xs := [.int .i64 ((nth oZ39 i).c), .int .i64 ((nth oZ39 i).n), .int .i64 ((nth oZ39 i).r), .int .i64 ((nth oZ39 i).k), .int .i64 ((nth oZ39 i).m), .int .i64 ((nth oZ39 i).v)]) (ys := [.int .i64 ((nth (rpC false (clX cls) (clS cls) (min cls.length 3)) k).c), .int .i64 ((nth (rpC false (clX cls) (clS cls) (min cls.length 3)) k).n), .int .i64 ((nth (rpC false (clX cls) (clS cls) (min cls.length 3)) k).r), .int .i64 ((nth (rpC false (clX cls) (clS cls) (min cls.length 3)) k).k), .int .i64 ((nth (rpC false (clX cls) (clS cls) (min cls.length 3)) k).m), .int .i64 ((nth (rpC false (clX cls) (clS cls) (min cls.length 3)) k).v)]) (by kernel_rfl) (eqIn111 9998 ((nth oZ39 i).c) ((nth oZ39 i).n) ((nth oZ39 i).r) ((nth oZ39 i).k) ((nth oZ39 i).m) ((nth oZ39 i).v) ((nth (rpC false (clX cls) (clS cls) (min cls.length 3)) k).c) ((nth (rpC false (clX cls) (clS cls) (min cls.length 3)) k).n) ((nth (rpC false (clX cls) (clS cls) (min cls.length 3)) k).r) ((nth (rpC false (clX cls) (clS cls) (min cls.length 3)) k).k) ((nth (rpC false (clX cls) (clS cls) (min cls.length 3)) k).m) ((nth (rpC false (clX cls) (clS cls) (min cls.length 3)) k).v)) rfl rfl rfl rfl ?_
   refine go ?_
   refine q_b (fun g100 => ?_) fun g100 => ?_
   ·
    have hz9 : nth oZ39 i = nth (rpC false (clX cls) (clS cls) (min cls.length 3)) k := Msg.eq6 (by simpa [and_assoc] using g100)
    refine go ?_
    exact hK79 (k + 1) (by omega) (hs := by exact ⟨(congrArg (fun z => some (Value.int .i64 z)) (by rw [fdK]; first | rw [if_pos hz9] | rw [if_neg hz9])), rfl, rfl, rfl, rfl, rfl, rfl, rfl, rfl, trivial⟩)
   have hz9 : ¬ nth oZ39 i = nth (rpC false (clX cls) (clS cls) (min cls.length 3)) k := fun e => absurd g100 (by rw [e]; simp)
   refine go ?_
   exact hK79 (k + 1) (by omega) (hs := by exact ⟨(congrArg (fun z => some (Value.int .i64 z)) (by rw [fdK]; first | rw [if_pos hz9] | rw [if_neg hz9])), rfl, rfl, rfl, rfl, rfl, rfl, rfl, rfl, trivial⟩)
  refine c_same 18 (v := .int .i64 1) rfl (congrArg (Value.int .i64) (by rw [show k = (rpC false (clX cls) (clS cls) (min cls.length 3)).length by omega]; exact fdK_one hnd ((hfa1 _).1 (nth_mem (by omega))))) ?_
  iterate 16 refine st1 ?_
  refine t_same 110 (v := .bool false) rfl (congrArg Value.bool (decide_eq_false (fun h => h (congrArg Nat.cast hfa2)))) ?_
  refine go ?_
  exact hK69 (i + 1) (by omega)
 refine go ?_
 have D97 := (((((((((hdQ3.keep u13 (fun _ _ _ h => h)).keep u20 (fun _ _ _ h => h)).keep u26 (fun _ _ _ h => h)).keep u36 (fun _ _ _ h => h)).keep u42 (fun _ _ _ h => h)).keep u50 (fun _ _ _ h => h)).keep u56 (fun _ _ _ h => h)).keep u64 (fun _ _ _ h => h)).keep u71 (fun _ _ _ h => h))
 have hmdH96 := D97
 have D98 := (((((((((hHQ3.keep u13 (fun _ h => h)).keep u20 (fun _ h => h)).keep u26 (fun _ h => h)).keep u36 (fun _ h => h)).keep u42 (fun _ h => h)).keep u50 (fun _ h => h)).keep u56 (fun _ h => h)).keep u64 (fun _ h => h)).keep u71 (fun _ h => h))
 refine x_c func23 rfl rfl (charters_c hsQ3 ahQ3 ghQ3 0 chQ3 _ (D98.sl (fun _ => rfl)) (by omega) hmdH96.rows (by omega)) ?_
 rintro _ w100 ⟨⟨csH96, aH96, gH96, cH96, rfl, hH96, hcpH96⟩, u101⟩ zu101
 have lt_gH96 := hH96.lt
 have hkH96 := hmdH96.copy hcpH96
 have hklH96 := hkH96.1
 refine go ?_
 have D105 := (((((((hF23.keep u36 (fun _ h => h)).keep u42 (fun _ h => h)).keep u50 (fun _ h => h)).keep u56 (fun _ h => h)).keep u64 (fun _ h => h)).keep u71 (fun _ h => h)).keep u101 (fun _ h => h))
 refine x_c func24 rfl rfl (times_c (spL fs) aF23 gF23 0 cF23 _ D105 (by omega) (by omega)) ?_
 rintro _ w107 ⟨⟨aT104, gT104, cT104, rfl, hT104⟩, u108⟩ zu108
 have lt_gT104 := hT104.lt
 refine go ?_
 have D112 := ((((((((D33.keep u36 (fun _ h => h)).keep u42 (fun _ h => h)).keep u50 (fun _ h => h)).keep u56 (fun _ h => h)).keep u64 (fun _ h => h)).keep u71 (fun _ h => h)).keep u101 (fun _ h => h)).keep u108 (fun _ h => h))
 refine x_c func25 rfl rfl (messages_c (rpC true (clX cls) (clS cls) (min cls.length 3)) amQ3 gmQ3 0 cmQ3 _ (D112.sl (fun _ => rfl)) (by omega) (by omega)) ?_
 rintro _ w114 ⟨⟨aM111, gM111, cM111, rfl, hM111⟩, u115⟩ zu115
 have lt_gM111 := hM111.lt
 have D119 := ((hkH96.keep u108 (fun _ _ _ h => h)).keep u115 (fun _ _ _ h => h))
 have hmB118 := D119
 have D120 := ((hH96.keep u108 (fun _ h => h)).keep u115 (fun _ h => h))
 have D121 := (hT104.keep u115 (fun _ h => h))
 refine x_c func22 rfl rfl (Balance_c csH96 aH96 gH96 0 cH96 (spL fs) aT104 gT104 0 cT104 (rpC true (clX cls) (clS cls) (min cls.length 3)) aM111 gM111 0 cM111 _ (D120.sl (fun _ => rfl)) (by omega) hmB118.rows (D121.sl (fun _ => rfl)) (by omega) (hM111.sl (fun _ => rfl)) (by omega) (by omega)) ?_
 rintro _ w123 ⟨⟨bB118, eB118, aB118, gB118, cB118, rfl, ⟨hSB118, hGB118⟩, hRB118⟩, u124⟩ zu124
 obtain ⟨rfl, rfl⟩ := BalR.val hRB118 (rpC_cov (cor := true)) (by omega) hxs (by omega) hklH96 (fun k hk => ⟨(hmB118.2 k hk).1, (hmB118.2 k hk).2.1⟩) hfc
 have hblB118 := baP_len (p := (fun _ => true)) (X := (clX cls)) (S := (clS cls)) (fr := (spL fs)) (min cls.length 3)
 have hlbB118 := hSB118.lt (by omega)
 have hgbB118 := hGB118 (by omega)
 refine go ?_
 have D129 := ((((D97.keep u101 (fun _ _ _ h => h)).keep u108 (fun _ _ _ h => h)).keep u115 (fun _ _ _ h => h)).keep u124 (fun _ _ _ h => h))
 have hmdH128 := D129
 have D130 := ((((D98.keep u101 (fun _ h => h)).keep u108 (fun _ h => h)).keep u115 (fun _ h => h)).keep u124 (fun _ h => h))
 refine x_c func23 rfl rfl (charters_c hsQ3 ahQ3 ghQ3 0 chQ3 _ (D130.sl (fun _ => rfl)) (by omega) hmdH128.rows (by omega)) ?_
 rintro _ w132 ⟨⟨csH128, aH128, gH128, cH128, rfl, hH128, hcpH128⟩, u133⟩ zu133
 have lt_gH128 := hH128.lt
 have hkH128 := hmdH128.copy hcpH128
 have hklH128 := hkH128.1
 refine go ?_
 have D137 := ((((D105.keep u108 (fun _ h => h)).keep u115 (fun _ h => h)).keep u124 (fun _ h => h)).keep u133 (fun _ h => h))
 refine x_c func24 rfl rfl (times_c (spL fs) aF23 gF23 0 cF23 _ D137 (by omega) (by omega)) ?_
 rintro _ w139 ⟨⟨aT136, gT136, cT136, rfl, hT136⟩, u140⟩ zu140
 have lt_gT136 := hT136.lt
 refine go ?_
 have D144 := ((((((((((D47.keep u50 (fun _ h => h)).keep u56 (fun _ h => h)).keep u64 (fun _ h => h)).keep u71 (fun _ h => h)).keep u101 (fun _ h => h)).keep u108 (fun _ h => h)).keep u115 (fun _ h => h)).keep u124 (fun _ h => h)).keep u133 (fun _ h => h)).keep u140 (fun _ h => h))
 refine x_c func25 rfl rfl (messages_c xsX aX gX 0 cX _ (D144.sl (fun _ => rfl)) (by omega) (by omega)) ?_
 rintro _ w146 ⟨⟨aM143, gM143, cM143, rfl, hM143⟩, u147⟩ zu147
 have lt_gM143 := hM143.lt
 have D151 := ((hkH128.keep u140 (fun _ _ _ h => h)).keep u147 (fun _ _ _ h => h))
 have hmB150 := D151
 have D152 := ((hH128.keep u140 (fun _ h => h)).keep u147 (fun _ h => h))
 have D153 := (hT136.keep u147 (fun _ h => h))
 refine x_c func22 rfl rfl (Balance_c csH128 aH128 gH128 0 cH128 (spL fs) aT136 gT136 0 cT136 xsX aM143 gM143 0 cM143 _ (D152.sl (fun _ => rfl)) (by omega) hmB150.rows (D153.sl (fun _ => rfl)) (by omega) (hM143.sl (fun _ => rfl)) (by omega) (by omega)) ?_
 rintro _ w155 ⟨⟨bB150, eB150, aB150, gB150, cB150, rfl, ⟨hSB150, hGB150⟩, hRB150⟩, u156⟩ zu156
 obtain ⟨rfl, rfl⟩ := BalR.val hRB150 hcX (by omega) hxs (by omega) hklH128 (fun k hk => ⟨(hmB150.2 k hk).1, (hmB150.2 k hk).2.1⟩) hfc
 have hblB150 := baP_len (p := (fun _ => true)) (X := (clX cls)) (S := (clS cls)) (fr := (spL fs)) (min cls.length 3)
 have hlbB150 := hSB150.lt (by omega)
 have hgbB150 := hGB150 (by omega)
 refine go ?_
 have D161 := ((((D129.keep u133 (fun _ _ _ h => h)).keep u140 (fun _ _ _ h => h)).keep u147 (fun _ _ _ h => h)).keep u156 (fun _ _ _ h => h))
 have hmdH160 := D161
 have D162 := ((((D130.keep u133 (fun _ h => h)).keep u140 (fun _ h => h)).keep u147 (fun _ h => h)).keep u156 (fun _ h => h))
 refine x_c func23 rfl rfl (charters_c hsQ3 ahQ3 ghQ3 0 chQ3 _ (D162.sl (fun _ => rfl)) (by omega) hmdH160.rows (by omega)) ?_
 rintro _ w164 ⟨⟨csH160, aH160, gH160, cH160, rfl, hH160, hcpH160⟩, u165⟩ zu165
 have lt_gH160 := hH160.lt
 have hkH160 := hmdH160.copy hcpH160
 have hklH160 := hkH160.1
 refine go ?_
 have D169 := ((((D137.keep u140 (fun _ h => h)).keep u147 (fun _ h => h)).keep u156 (fun _ h => h)).keep u165 (fun _ h => h))
 refine x_c func24 rfl rfl (times_c (spL fs) aF23 gF23 0 cF23 _ D169 (by omega) (by omega)) ?_
 rintro _ w171 ⟨⟨aT168, gT168, cT168, rfl, hT168⟩, u172⟩ zu172
 have lt_gT168 := hT168.lt
 refine go ?_
 have D176 := ((((((((((((((((((hMQ10.keep u20 (fun _ h => h)).keep u26 (fun _ h => h)).keep u36 (fun _ h => h)).keep u42 (fun _ h => h)).keep u50 (fun _ h => h)).keep u56 (fun _ h => h)).keep u64 (fun _ h => h)).keep u71 (fun _ h => h)).keep u101 (fun _ h => h)).keep u108 (fun _ h => h)).keep u115 (fun _ h => h)).keep u124 (fun _ h => h)).keep u133 (fun _ h => h)).keep u140 (fun _ h => h)).keep u147 (fun _ h => h)).keep u156 (fun _ h => h)).keep u165 (fun _ h => h)).keep u172 (fun _ h => h))
 refine x_c func25 rfl rfl (messages_c (rpC false (clX cls) (clS cls) (min cls.length 3)) amQ10 gmQ10 0 cmQ10 _ (D176.sl (fun _ => rfl)) (by omega) (by omega)) ?_
 rintro _ w178 ⟨⟨aM175, gM175, cM175, rfl, hM175⟩, u179⟩ zu179
 have lt_gM175 := hM175.lt
 have D183 := ((hkH160.keep u172 (fun _ _ _ h => h)).keep u179 (fun _ _ _ h => h))
 have hmB182 := D183
 have D184 := ((hH160.keep u172 (fun _ h => h)).keep u179 (fun _ h => h))
 have D185 := (hT168.keep u179 (fun _ h => h))
 refine x_c func22 rfl rfl (Balance_c csH160 aH160 gH160 0 cH160 (spL fs) aT168 gT168 0 cT168 (rpC false (clX cls) (clS cls) (min cls.length 3)) aM175 gM175 0 cM175 _ (D184.sl (fun _ => rfl)) (by omega) hmB182.rows (D185.sl (fun _ => rfl)) (by omega) (hM175.sl (fun _ => rfl)) (by omega) (by omega)) ?_
 rintro _ w187 ⟨⟨bB182, eB182, aB182, gB182, cB182, rfl, ⟨hSB182, hGB182⟩, hRB182⟩, u188⟩ zu188
 obtain ⟨rfl, rfl⟩ := BalR.val hRB182 (rpC_cov (cor := false)) (by omega) hxs (by omega) hklH160 (fun k hk => ⟨(hmB182.2 k hk).1, (hmB182.2 k hk).2.1⟩) hfc
 have hblB182 := baP_len (p := (fun _ => true)) (X := (clX cls)) (S := (clS cls)) (fr := (spL fs)) (min cls.length 3)
 have hlbB182 := hSB182.lt (by omega)
 have hgbB182 := hGB182 (by omega)
 refine go ?_
 have D193 := ((((((((hSB118.keep u133 (fun _ h => h)).keep u140 (fun _ h => h)).keep u147 (fun _ h => h)).keep u156 (fun _ h => h)).keep u165 (fun _ h => h)).keep u172 (fun _ h => h)).keep u179 (fun _ h => h)).keep u188 (fun _ h => h))
 have D194 := ((((hSB150.keep u165 (fun _ h => h)).keep u172 (fun _ h => h)).keep u179 (fun _ h => h)).keep u188 (fun _ h => h))
 refine x_c func19 rfl rfl (equal_c (baP (fun _ => true) (clX cls) (clS cls) (spL fs) (min cls.length 3)) aB118 gB118 0 cB118 (baP (fun _ => true) (clX cls) (clS cls) (spL fs) (min cls.length 3)) aB150 gB150 0 cB150 _ D193 (by omega) D194 (by omega)) ?_
 rintro _ w196 ⟨rfl, u197⟩ zu197
 refine t_same 153 (v := .bool true) rfl (congrArg Value.bool (decide_eq_true (rfl))) ?_
 refine go ?_
 have D200 := (D193.keep u197 (fun _ h => h))
 have D201 := (hSB182.keep u197 (fun _ h => h))
 refine x_c func19 rfl rfl (equal_c (baP (fun _ => true) (clX cls) (clS cls) (spL fs) (min cls.length 3)) aB118 gB118 0 cB118 (baP (fun _ => true) (clX cls) (clS cls) (spL fs) (min cls.length 3)) aB182 gB182 0 cB182 _ D200 (by omega) D201 (by omega)) ?_
 rintro _ w203 ⟨rfl, u204⟩ zu204
 refine t_same 159 (v := .bool true) rfl (congrArg Value.bool (decide_eq_true (rfl))) ?_
 refine go ?_
 refine x_l1 (fun _ => False) [7, 8, 11, 12] (fun (i : Nat) => [(24, .int .i64 (i : Int))]) (fun i w => (i ≤ (min cls.length 3))) (fun i => (min cls.length 3) - i) 0 (by omega) ?_
 rintro i w210 hi u211 zu211 K209 hK209
 refine go ?_
 refine q_p (fun g173 => ?_) fun g173 => ?_
 ·
  have D215 := (((((((D161.keep u165 (fun _ _ _ h => h)).keep u172 (fun _ _ _ h => h)).keep u179 (fun _ _ _ h => h)).keep u188 (fun _ _ _ h => h)).keep u197 (fun _ _ _ h => h)).keep u204 (fun _ _ _ h => h)).keep u211 (fun _ _ _ h => h))
  have hi9 : i < (min cls.length 3) := by omega
  have hv8 := D215.2 i hi9
  have hv9 : (nth hsQ3 i).v = tmC (clX cls i) ∧ (nth hsQ3 i).ws = tmW (clX cls i) := ⟨hv8.1, hv8.2.1⟩
  refine go ?_
  refine x_l fun bk218 w219 ebk218 sbk218 B220 u221 => ?_
  refine x_l fun bk223 w224 ebk223 sbk223 B225 u226 => ?_
  refine go ?_
  have B230 := (B220.kx u226)
  refine x_l4 (fun i => i = bk218 ∨ w224.heap.size ≤ i) [7, 8, 11, 12, 24, 26] (fun (k : Nat) (au : Option Addr) (gu : Nat) (cu : Nat) => [(25, .slice au ((mnI (rpC true (clX cls) (clS cls) (min cls.length 3)) i k).length) cu), (27, .int .i64 (k : Int))]) (fun k au gu cu w => (k ≤ (rpC true (clX cls) (clS cls) (min cls.length 3)).length) ∧ (Acc encMsg 6 111 bk218 w au gu cu (mnI (rpC true (clX cls) (clS cls) (min cls.length 3)) i k)) ∧ (gu = bk218 ∨ w224.heap.size ≤ gu)) (fun k au gu cu => (rpC true (clX cls) (clS cls) (min cls.length 3)).length - k) 0 (some ⟨bk218, 0, none⟩) bk218 0 ⟨(by omega), (Acc.ofBlk (xs := ([] : List Msg)) encMsg 6 (fun _ => rfl) B230 (Nat.le_refl _) (by decide)), (.inl rfl)⟩ ?_
  rintro k au gu cu w232 ⟨hk, hAu, hGu⟩ u233 zu233 K231 hK231
  have lt_gu := hAu.lt
  have hml9 := mnI_len (l := (rpC true (clX cls) (clS cls) (min cls.length 3))) (i := i) (k := k)
  refine go ?_
  refine q_p (fun g181 => ?_) fun g181 => ?_
  ·
   refine go ?_
   have D239 := ((((((((((((((((D112.keep u115 (fun _ h => h)).keep u124 (fun _ h => h)).keep u133 (fun _ h => h)).keep u140 (fun _ h => h)).keep u147 (fun _ h => h)).keep u156 (fun _ h => h)).keep u165 (fun _ h => h)).keep u172 (fun _ h => h)).keep u179 (fun _ h => h)).keep u188 (fun _ h => h)).keep u197 (fun _ h => h)).keep u204 (fun _ h => h)).keep u211 (fun _ h => h)).keep u221 (fun _ h => h)).keep u226 (fun _ h => h)).keep u233 (fun hb => show ¬ (gmQ3 = bk218 ∨ w224.heap.size ≤ gmQ3) by first | omega | assumption))
   refine g_i k (D239.sl (fun _ => rfl)) (fun _ => ?_)
   refine go ?_
   refine q_p (fun g190 => ?_) fun g190 => ?_
   ·
    have hst9 := mnI_t (l := (rpC true (clX cls) (clS cls) (min cls.length 3))) (i := i) (k := k) (by omega) g190
    refine go ?_
    refine g_i k (D239.sl (fun _ => rfl)) (fun _ => ?_)
    refine go ?_
    refine x_l fun bk242 w243 ebk242 sbk242 B244 u245 => ?_
    have D247 := (hAu.keep u245 (fun _ h => h))
    refine t_append (z := .agg #[.int .i64 0, .int .i64 0, .int .i64 0, .int .i64 0, .int .i64 0, .int .i64 0]) (bytes := 48) (k := 6) (base := bk218) (nth (rpC true (clX cls) (clS cls) (min cls.length 3)) k) underlying53 (by kernel_rfl) rfl (by decide) (fun _ => rfl) (by intro x; simp [encMsg, Value.oneCell']) rfl rfl rfl rfl D247 B244 (by omega) (by omega) (by decide) (fun ao248 gb249 cp250 w251 A252 u253 gegb249 lngb249 => ?_)
    have zu253 := u253.size
    have lt_gb249 := A252.lt
    refine go ?_
    exact hK231 (k + 1) ao248 gb249 cp250 ⟨(by omega), (by rw [hst9]; exact A252), (by omega)⟩ (hs := by exact ⟨(by first | (rw [hst9]; done) | (rw [hst9]; rfl)), rfl, rfl, rfl, rfl, rfl, rfl, rfl, trivial⟩) (hu := ((u233.nx u245).next u253 (fun i hi (h : (i = gu ∧ bk218 ≤ i)) => show i = bk218 ∨ w224.heap.size ≤ i by first | omega | assumption)))
   have hst9 := mnI_f (l := (rpC true (clX cls) (clS cls) (min cls.length 3))) (i := i) (k := k) (by omega) g190
   refine go ?_
   exact hK231 (k + 1) au gu cu ⟨(by omega), (by rw [hst9]; exact hAu), (by omega)⟩ (hs := by exact ⟨(by first | (rw [hst9]; done) | (rw [hst9]; rfl)), rfl, rfl, rfl, rfl, rfl, rfl, rfl, trivial⟩) (hu := u233)
  obtain ⟨mu, eu⟩ : ∃ m, m = mnI (rpC true (clX cls) (clS cls) (min cls.length 3)) i k := ⟨_, rfl⟩
  have hlu : mu.length ≤ 100 := by rw [eu]; omega
  have hcu : Cov (clX cls) (clS cls) (min cls.length 3) (fun j => decide (j = i)) mu := by rw [eu, mnI_all (by omega)]; exact Cov.fil (rpC_cov (cor := true)) hxs (by omega)
  rw [← eu] at hAu
  refine c_same 25 (v := .slice au mu.length cu) rfl (by rw [← eu]) ?_
  have lt_gu := hAu.lt
  refine go ?_
  have B257 := (B225.keep u233 (show ¬ (bk223 = bk218 ∨ w224.heap.size ≤ bk223) by first | omega | assumption))
  refine x_l4 (fun i => i = bk223 ∨ w232.heap.size ≤ i) [7, 8, 11, 12, 24, 25] (fun (k : Nat) (av : Option Addr) (gv : Nat) (cv : Nat) => [(26, .slice av ((mnI xsX i k).length) cv), (28, .int .i64 (k : Int))]) (fun k av gv cv w => (k ≤ xsX.length) ∧ (Acc encMsg 6 111 bk223 w av gv cv (mnI xsX i k)) ∧ (gv = bk223 ∨ w232.heap.size ≤ gv)) (fun k av gv cv => xsX.length - k) 0 (some ⟨bk223, 0, none⟩) bk223 0 ⟨(by omega), (Acc.ofBlk (xs := ([] : List Msg)) encMsg 6 (fun _ => rfl) B257 (Nat.le_refl _) (by decide)), (.inl rfl)⟩ ?_
  rintro k av gv cv w259 ⟨hk, hAv, hGv⟩ u260 zu260 K258 hK258
  have lt_gv := hAv.lt
  have hml9 := mnI_len (l := xsX) (i := i) (k := k)
  refine go ?_
  refine q_p (fun g201 => ?_) fun g201 => ?_
  ·
   refine go ?_
   have D266 := (((((((((((((D144.keep u147 (fun _ h => h)).keep u156 (fun _ h => h)).keep u165 (fun _ h => h)).keep u172 (fun _ h => h)).keep u179 (fun _ h => h)).keep u188 (fun _ h => h)).keep u197 (fun _ h => h)).keep u204 (fun _ h => h)).keep u211 (fun _ h => h)).keep u221 (fun _ h => h)).keep u226 (fun _ h => h)).keep u233 (fun hb => show ¬ (gX = bk218 ∨ w224.heap.size ≤ gX) by first | omega | assumption)).keep u260 (fun hb => show ¬ (gX = bk223 ∨ w232.heap.size ≤ gX) by first | omega | assumption))
   refine g_i k (D266.sl (fun _ => rfl)) (fun _ => ?_)
   refine go ?_
   refine q_p (fun g210 => ?_) fun g210 => ?_
   ·
    have hst9 := mnI_t (l := xsX) (i := i) (k := k) (by omega) g210
    refine go ?_
    refine g_i k (D266.sl (fun _ => rfl)) (fun _ => ?_)
    refine go ?_
    refine x_l fun bk269 w270 ebk269 sbk269 B271 u272 => ?_
    have D274 := (hAv.keep u272 (fun _ h => h))
    refine t_append (z := .agg #[.int .i64 0, .int .i64 0, .int .i64 0, .int .i64 0, .int .i64 0, .int .i64 0]) (bytes := 48) (k := 6) (base := bk223) (nth xsX k) underlying53 (by kernel_rfl) rfl (by decide) (fun _ => rfl) (by intro x; simp [encMsg, Value.oneCell']) rfl rfl rfl rfl D274 B271 (by omega) (by omega) (by decide) (fun ao275 gb276 cp277 w278 A279 u280 gegb276 lngb276 => ?_)
    have zu280 := u280.size
    have lt_gb276 := A279.lt
    refine go ?_
    exact hK258 (k + 1) ao275 gb276 cp277 ⟨(by omega), (by rw [hst9]; exact A279), (by omega)⟩ (hs := by exact ⟨(by first | (rw [hst9]; done) | (rw [hst9]; rfl)), rfl, rfl, rfl, rfl, rfl, rfl, rfl, trivial⟩) (hu := ((u260.nx u272).next u280 (fun i hi (h : (i = gv ∧ bk223 ≤ i)) => show i = bk223 ∨ w232.heap.size ≤ i by first | omega | assumption)))
   have hst9 := mnI_f (l := xsX) (i := i) (k := k) (by omega) g210
   refine go ?_
   exact hK258 (k + 1) av gv cv ⟨(by omega), (by rw [hst9]; exact hAv), (by omega)⟩ (hs := by exact ⟨(by first | (rw [hst9]; done) | (rw [hst9]; rfl)), rfl, rfl, rfl, rfl, rfl, rfl, rfl, trivial⟩) (hu := u260)
  obtain ⟨mv, ev⟩ : ∃ m, m = mnI xsX i k := ⟨_, rfl⟩
  have hlv : mv.length ≤ 100 := by rw [ev]; omega
  have hcv : Cov (clX cls) (clS cls) (min cls.length 3) (fun j => decide (j = i)) mv := by rw [ev, mnI_all (by omega)]; exact Cov.fil hcX hxs (by omega)
  rw [← ev] at hAv
  refine c_same 26 (v := .slice av mv.length cv) rfl (by rw [← ev]) ?_
  have lt_gv := hAv.lt
  refine go ?_
  have D283 := (((((((((((D162.keep u165 (fun _ h => h)).keep u172 (fun _ h => h)).keep u179 (fun _ h => h)).keep u188 (fun _ h => h)).keep u197 (fun _ h => h)).keep u204 (fun _ h => h)).keep u211 (fun _ h => h)).keep u221 (fun _ h => h)).keep u226 (fun _ h => h)).keep u233 (fun hb => show ¬ (ghQ3 = bk218 ∨ w224.heap.size ≤ ghQ3) by first | omega | assumption)).keep u260 (fun hb => show ¬ (ghQ3 = bk223 ∨ w232.heap.size ≤ ghQ3) by first | omega | assumption))
  refine g_i i (D283.sl (fun _ => rfl)) (fun _ => ?_)
  refine go ?_
  have D285 := ((((D215.keep u221 (fun _ _ _ h => h)).keep u226 (fun _ _ _ h => h)).keep u233 (fun i hi h9 => show ¬ ((nth hsQ3 i).g = bk218 ∨ w224.heap.size ≤ (nth hsQ3 i).g) by have := hgoQ3 i hi h9; have := hltQ3 i hi h9; omega)).keep u260 (fun i hi h9 => show ¬ ((nth hsQ3 i).g = bk223 ∨ w232.heap.size ≤ (nth hsQ3 i).g) by have := hgoQ3 i hi h9; have := hltQ3 i hi h9; omega))
  refine x_c func28 rfl rfl (own_cc (nth hsQ3 i).v (nth hsQ3 i).ws (nth hsQ3 i).ao (nth hsQ3 i).g (nth hsQ3 i).o (nth hsQ3 i).cp _ (D285.2 i (by omega)).2.2 (by rw [hv9.2]; show 2 ≤ _; decide) (by omega)) ?_
  rintro _ w288 ⟨⟨aO286, gO286, cO286, rfl, hO286⟩, u289⟩ zu289
  have lt_gO286 := hO286.lt
  refine go ?_
  have D293 := (((((((((((D169.keep u172 (fun _ h => h)).keep u179 (fun _ h => h)).keep u188 (fun _ h => h)).keep u197 (fun _ h => h)).keep u204 (fun _ h => h)).keep u211 (fun _ h => h)).keep u221 (fun _ h => h)).keep u226 (fun _ h => h)).keep u233 (fun h9 => show ¬ (gF23 = bk218 ∨ w224.heap.size ≤ gF23) by have := hlF23 h9; have := hgF23 h9; omega)).keep u260 (fun h9 => show ¬ (gF23 = bk223 ∨ w232.heap.size ≤ gF23) by have := hlF23 h9; have := hgF23 h9; omega)).keep u289 (fun _ h => h))
  refine x_c func24 rfl rfl (times_c (spL fs) aF23 gF23 0 cF23 _ D293 (by omega) (by omega)) ?_
  rintro _ w295 ⟨⟨aT292, gT292, cT292, rfl, hT292⟩, u296⟩ zu296
  have lt_gT292 := hT292.lt
  refine go ?_
  have D300 := (((hAu.keep u260 (fun hb => show ¬ (gu = bk223 ∨ w232.heap.size ≤ gu) by first | omega | assumption)).keep u289 (fun _ h => h)).keep u296 (fun _ h => h))
  refine x_c func25 rfl rfl (messages_c mu au gu 0 cu _ (D300.sl (fun _ => rfl)) (by omega) (by omega)) ?_
  rintro _ w302 ⟨⟨aM299, gM299, cM299, rfl, hM299⟩, u303⟩ zu303
  have lt_gM299 := hM299.lt
  have D307 := ((hO286.keep u296 (fun _ h => h)).keep u303 (fun _ h => h))
  have D308 := (hT292.keep u303 (fun _ h => h))
  refine x_c func29 rfl rfl (Laytime_c (nth hsQ3 i).v (nth hsQ3 i).ws aO286 gO286 0 cO286 (spL fs) aT292 gT292 0 cT292 mu aM299 gM299 0 cM299 _ (D307.sl (fun _ => rfl)) (by rw [hv9.2]; show 2 ≤ _; decide) (D308.sl (fun _ => rfl)) (by omega) (hM299.sl (fun _ => rfl)) (by omega) (by omega)) ?_
  rintro _ w310 ⟨⟨rL306, eL306, rfl, hL306⟩, u311⟩ zu311
  rw [hv9.1, hv9.2] at hL306
  obtain ⟨rfl, rfl⟩ := Cov.lt (X := (clX cls)) (S := (clS cls)) (n := (min cls.length 3)) (i := i) hcu hxs (by omega) hi9 (by omega) hfc hL306
  refine go ?_
  refine x_n fun bk314 w315 ebk314 sbk314 B316 u317 => ?_
  refine x_s fun w319 sw319 B321 u320 => ?_
  refine go ?_
  have D324 := ((((((D283.keep u289 (fun _ h => h)).keep u296 (fun _ h => h)).keep u303 (fun _ h => h)).keep u311 (fun _ h => h)).keep u317 (fun _ h => h)).keep u320 (fun hb => show ¬ (ghQ3 = bk314) by first | omega | assumption))
  refine g_i i (D324.sl (fun _ => rfl)) (fun _ => ?_)
  refine go ?_
  have D326 := ((((((D285.keep u289 (fun _ _ _ h => h)).keep u296 (fun _ _ _ h => h)).keep u303 (fun _ _ _ h => h)).keep u311 (fun _ _ _ h => h)).keep u317 (fun _ _ _ h => h)).keep u320 (fun i hi h9 => show ¬ ((nth hsQ3 i).g = bk314) by have := hgoQ3 i hi h9; have := hltQ3 i hi h9; omega))
  refine x_c func28 rfl rfl (own_cc (nth hsQ3 i).v (nth hsQ3 i).ws (nth hsQ3 i).ao (nth hsQ3 i).g (nth hsQ3 i).o (nth hsQ3 i).cp _ (D326.2 i (by omega)).2.2 (by rw [hv9.2]; show 2 ≤ _; decide) (by omega)) ?_
  rintro _ w329 ⟨⟨aO327, gO327, cO327, rfl, hO327⟩, u330⟩ zu330
  have lt_gO327 := hO327.lt
  refine go ?_
  have D334 := ((((((D293.keep u296 (fun _ h => h)).keep u303 (fun _ h => h)).keep u311 (fun _ h => h)).keep u317 (fun _ h => h)).keep u320 (fun h9 => show ¬ (gF23 = bk314) by have := hlF23 h9; have := hgF23 h9; omega)).keep u330 (fun _ h => h))
  refine x_c func24 rfl rfl (times_c (spL fs) aF23 gF23 0 cF23 _ D334 (by omega) (by omega)) ?_
  rintro _ w336 ⟨⟨aT333, gT333, cT333, rfl, hT333⟩, u337⟩ zu337
  have lt_gT333 := hT333.lt
  refine go ?_
  have D341 := ((((((((hAv.keep u289 (fun _ h => h)).keep u296 (fun _ h => h)).keep u303 (fun _ h => h)).keep u311 (fun _ h => h)).keep u317 (fun _ h => h)).keep u320 (fun hb => show ¬ (gv = bk314) by first | omega | assumption)).keep u330 (fun _ h => h)).keep u337 (fun _ h => h))
  refine x_c func25 rfl rfl (messages_c mv av gv 0 cv _ (D341.sl (fun _ => rfl)) (by omega) (by omega)) ?_
  rintro _ w343 ⟨⟨aM340, gM340, cM340, rfl, hM340⟩, u344⟩ zu344
  have lt_gM340 := hM340.lt
  have D348 := ((hO327.keep u337 (fun _ h => h)).keep u344 (fun _ h => h))
  have D349 := (hT333.keep u344 (fun _ h => h))
  refine x_c func29 rfl rfl (Laytime_c (nth hsQ3 i).v (nth hsQ3 i).ws aO327 gO327 0 cO327 (spL fs) aT333 gT333 0 cT333 mv aM340 gM340 0 cM340 _ (D348.sl (fun _ => rfl)) (by rw [hv9.2]; show 2 ≤ _; decide) (D349.sl (fun _ => rfl)) (by omega) (hM340.sl (fun _ => rfl)) (by omega) (by omega)) ?_
  rintro _ w351 ⟨⟨rL347, eL347, rfl, hL347⟩, u352⟩ zu352
  rw [hv9.1, hv9.2] at hL347
  obtain ⟨rfl, rfl⟩ := Cov.lt (X := (clX cls)) (S := (clS cls)) (n := (min cls.length 3)) (i := i) hcv hxs (by omega) hi9 (by omega) hfc hL347
  refine go ?_
  refine x_n fun bk355 w356 ebk355 sbk355 B357 u358 => ?_
  refine x_s fun w360 sw360 B362 u361 => ?_
  refine go ?_
  have D365 := ((((((D324.keep u330 (fun _ h => h)).keep u337 (fun _ h => h)).keep u344 (fun _ h => h)).keep u352 (fun _ h => h)).keep u358 (fun _ h => h)).keep u361 (fun hb => show ¬ (ghQ3 = bk355) by first | omega | assumption))
  refine g_i i (D365.sl (fun _ => rfl)) (fun _ => ?_)
  refine go ?_
  have D367 := ((((((D326.keep u330 (fun _ _ _ h => h)).keep u337 (fun _ _ _ h => h)).keep u344 (fun _ _ _ h => h)).keep u352 (fun _ _ _ h => h)).keep u358 (fun _ _ _ h => h)).keep u361 (fun i hi h9 => show ¬ ((nth hsQ3 i).g = bk355) by have := hgoQ3 i hi h9; have := hltQ3 i hi h9; omega))
  refine x_c func28 rfl rfl (own_cc (nth hsQ3 i).v (nth hsQ3 i).ws (nth hsQ3 i).ao (nth hsQ3 i).g (nth hsQ3 i).o (nth hsQ3 i).cp _ (D367.2 i (by omega)).2.2 (by rw [hv9.2]; show 2 ≤ _; decide) (by omega)) ?_
  rintro _ w370 ⟨⟨aO368, gO368, cO368, rfl, hO368⟩, u371⟩ zu371
  have lt_gO368 := hO368.lt
  refine go ?_
  have D375 := ((((((D334.keep u337 (fun _ h => h)).keep u344 (fun _ h => h)).keep u352 (fun _ h => h)).keep u358 (fun _ h => h)).keep u361 (fun h9 => show ¬ (gF23 = bk355) by have := hlF23 h9; have := hgF23 h9; omega)).keep u371 (fun _ h => h))
  refine x_c func24 rfl rfl (times_c (spL fs) aF23 gF23 0 cF23 _ D375 (by omega) (by omega)) ?_
  rintro _ w377 ⟨⟨aT374, gT374, cT374, rfl, hT374⟩, u378⟩ zu378
  have lt_gT374 := hT374.lt
  refine go ?_
  have D382 := (hO368.keep u378 (fun _ h => h))
  have D383 := ((((((((((((D300.keep u303 (fun _ h => h)).keep u311 (fun _ h => h)).keep u317 (fun _ h => h)).keep u320 (fun hb => show ¬ (gu = bk314) by first | omega | assumption)).keep u330 (fun _ h => h)).keep u337 (fun _ h => h)).keep u344 (fun _ h => h)).keep u352 (fun _ h => h)).keep u358 (fun _ h => h)).keep u361 (fun hb => show ¬ (gu = bk355) by first | omega | assumption)).keep u371 (fun _ h => h)).keep u378 (fun _ h => h))
  refine x_c func27 rfl rfl (Bill_c (nth hsQ3 i).v (nth hsQ3 i).ws aO368 gO368 0 cO368 (spL fs) aT374 gT374 0 cT374 mu au gu 0 cu _ (D382.sl (fun _ => rfl)) (by rw [hv9.2]; show 2 ≤ _; decide) (hT374.sl (fun _ => rfl)) (by omega) (D383.sl (fun _ => rfl)) (by omega) (by omega)) ?_
  rintro _ w385 ⟨⟨rL381, eL381, rfl, hL381⟩, u386⟩ zu386
  rw [hv9.1, hv9.2] at hL381
  obtain ⟨rfl, rfl⟩ := Cov.bi (X := (clX cls)) (S := (clS cls)) (n := (min cls.length 3)) (i := i) hcu hxs (by omega) hi9 (by omega) hfc hL381
  refine go ?_
  refine x_n fun bk389 w390 ebk389 sbk389 B391 u392 => ?_
  refine x_s fun w394 sw394 B396 u395 => ?_
  refine go ?_
  have D399 := (((((D365.keep u371 (fun _ h => h)).keep u378 (fun _ h => h)).keep u386 (fun _ h => h)).keep u392 (fun _ h => h)).keep u395 (fun hb => show ¬ (ghQ3 = bk389) by first | omega | assumption))
  refine g_i i (D399.sl (fun _ => rfl)) (fun _ => ?_)
  refine go ?_
  have D401 := (((((D367.keep u371 (fun _ _ _ h => h)).keep u378 (fun _ _ _ h => h)).keep u386 (fun _ _ _ h => h)).keep u392 (fun _ _ _ h => h)).keep u395 (fun i hi h9 => show ¬ ((nth hsQ3 i).g = bk389) by have := hgoQ3 i hi h9; have := hltQ3 i hi h9; omega))
  refine x_c func28 rfl rfl (own_cc (nth hsQ3 i).v (nth hsQ3 i).ws (nth hsQ3 i).ao (nth hsQ3 i).g (nth hsQ3 i).o (nth hsQ3 i).cp _ (D401.2 i (by omega)).2.2 (by rw [hv9.2]; show 2 ≤ _; decide) (by omega)) ?_
  rintro _ w404 ⟨⟨aO402, gO402, cO402, rfl, hO402⟩, u405⟩ zu405
  have lt_gO402 := hO402.lt
  refine go ?_
  have D409 := (((((D375.keep u378 (fun _ h => h)).keep u386 (fun _ h => h)).keep u392 (fun _ h => h)).keep u395 (fun h9 => show ¬ (gF23 = bk389) by have := hlF23 h9; have := hgF23 h9; omega)).keep u405 (fun _ h => h))
  refine x_c func24 rfl rfl (times_c (spL fs) aF23 gF23 0 cF23 _ D409 (by omega) (by omega)) ?_
  rintro _ w411 ⟨⟨aT408, gT408, cT408, rfl, hT408⟩, u412⟩ zu412
  have lt_gT408 := hT408.lt
  refine go ?_
  have D416 := (hO402.keep u412 (fun _ h => h))
  have D417 := (((((((((((D341.keep u344 (fun _ h => h)).keep u352 (fun _ h => h)).keep u358 (fun _ h => h)).keep u361 (fun hb => show ¬ (gv = bk355) by first | omega | assumption)).keep u371 (fun _ h => h)).keep u378 (fun _ h => h)).keep u386 (fun _ h => h)).keep u392 (fun _ h => h)).keep u395 (fun hb => show ¬ (gv = bk389) by first | omega | assumption)).keep u405 (fun _ h => h)).keep u412 (fun _ h => h))
  refine x_c func27 rfl rfl (Bill_c (nth hsQ3 i).v (nth hsQ3 i).ws aO402 gO402 0 cO402 (spL fs) aT408 gT408 0 cT408 mv av gv 0 cv _ (D416.sl (fun _ => rfl)) (by rw [hv9.2]; show 2 ≤ _; decide) (hT408.sl (fun _ => rfl)) (by omega) (D417.sl (fun _ => rfl)) (by omega) (by omega)) ?_
  rintro _ w419 ⟨⟨rL415, eL415, rfl, hL415⟩, u420⟩ zu420
  rw [hv9.1, hv9.2] at hL415
  obtain ⟨rfl, rfl⟩ := Cov.bi (X := (clX cls)) (S := (clS cls)) (n := (min cls.length 3)) (i := i) hcv hxs (by omega) hi9 (by omega) hfc hL415
  refine go ?_
  refine x_n fun bk423 w424 ebk423 sbk423 B425 u426 => ?_
  refine x_s fun w428 sw428 B430 u429 => ?_
  refine go ?_
  refine t_neS (xs := [.int .i64 ((ltP (clX cls i) (clS cls i) (spL fs)).b), .int .i64 ((ltP (clX cls i) (clS cls i) (spL fs)).u), .int .i64 ((ltP (clX cls i) (clS cls i) (spL fs)).o), .int .i64 ((ltP (clX cls i) (clS cls i) (spL fs)).s)]) (ys := [.int .i64 ((ltP (clX cls i) (clS cls i) (spL fs)).b), .int .i64 ((ltP (clX cls i) (clS cls i) (spL fs)).u), .int .i64 ((ltP (clX cls i) (clS cls i) (spL fs)).o), .int .i64 ((ltP (clX cls i) (clS cls i) (spL fs)).s)]) (by kernel_rfl) (eqIn81 9998 ((ltP (clX cls i) (clS cls i) (spL fs)).b) ((ltP (clX cls i) (clS cls i) (spL fs)).u) ((ltP (clX cls i) (clS cls i) (spL fs)).o) ((ltP (clX cls i) (clS cls i) (spL fs)).s) ((ltP (clX cls i) (clS cls i) (spL fs)).b) ((ltP (clX cls i) (clS cls i) (spL fs)).u) ((ltP (clX cls i) (clS cls i) (spL fs)).o) ((ltP (clX cls i) (clS cls i) (spL fs)).s)) rfl rfl rfl rfl (t_samehd (v := .bool false) (by simp) ?_)
  refine go ?_
  refine t_neS (xs := [.int .i64 ((blC (clX cls i) (clS cls i) (spL fs)).f), .int .i64 ((blC (clX cls i) (clS cls i) (spL fs)).o), .int .i64 ((blC (clX cls i) (clS cls i) (spL fs)).d), .int .i64 ((blC (clX cls i) (clS cls i) (spL fs)).e), .int .i64 ((blC (clX cls i) (clS cls i) (spL fs)).c), .int .i64 ((blC (clX cls i) (clS cls i) (spL fs)).t)]) (ys := [.int .i64 ((blC (clX cls i) (clS cls i) (spL fs)).f), .int .i64 ((blC (clX cls i) (clS cls i) (spL fs)).o), .int .i64 ((blC (clX cls i) (clS cls i) (spL fs)).d), .int .i64 ((blC (clX cls i) (clS cls i) (spL fs)).e), .int .i64 ((blC (clX cls i) (clS cls i) (spL fs)).c), .int .i64 ((blC (clX cls i) (clS cls i) (spL fs)).t)]) (by kernel_rfl) (eqIn73 9998 ((blC (clX cls i) (clS cls i) (spL fs)).f) ((blC (clX cls i) (clS cls i) (spL fs)).o) ((blC (clX cls i) (clS cls i) (spL fs)).d) ((blC (clX cls i) (clS cls i) (spL fs)).e) ((blC (clX cls i) (clS cls i) (spL fs)).c) ((blC (clX cls i) (clS cls i) (spL fs)).t) ((blC (clX cls i) (clS cls i) (spL fs)).f) ((blC (clX cls i) (clS cls i) (spL fs)).o) ((blC (clX cls i) (clS cls i) (spL fs)).d) ((blC (clX cls i) (clS cls i) (spL fs)).e) ((blC (clX cls i) (clS cls i) (spL fs)).c) ((blC (clX cls i) (clS cls i) (spL fs)).t)) rfl rfl rfl rfl (t_samehd (v := .bool false) (by simp) ?_)
  refine go ?_
  exact hK209 (i + 1) (by omega)
 refine go ?_
 refine x_c func11 rfl rfl (known_c _ (by omega)) ?_
 rintro _ w435 ⟨rfl, u436⟩ zu436
 refine go ?_
 refine f_1 results10 ?_
 exact ⟨rfl, u_d⟩

end Go.Proofs.YtgoajalaomakpaaGreat
