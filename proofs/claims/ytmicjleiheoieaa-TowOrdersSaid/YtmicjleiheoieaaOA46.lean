/-
  The contract of the reference's Order. Conditions: none.
-/
import Derived.Test.YtmicjleiheoieaaOA35
import Derived.Test.YtmicjleiheoieaaOA45
import Derived.Test.YtmicjleiheoieaaOWr
namespace Go.Proofs.Ytmicjleiheoieaa
open Go Go.RowKit
/-- The best order so far, as the reference keeps it. -/
def BestB (vl : List Voy) (ns : List Nar) (most : Int) (L : List (List Int)) (ord hs : List Int) (tot : Int) : Prop :=
  (tot = -1 ∧ bestF vl ns most L = none ∧ ord = [] ∧ hs = []) ∨ (0 ≤ tot ∧ bestF vl ns most L = some (ord, permH hs ord) ∧ okPick vl.length ord ∧ ord.length = vl.length ∧ hs.length = vl.length ∧ tot = sumI (permH hs ord))
section
variable {vl : List Voy} {ns : List Nar} {most tot : Int} {L : List (List Int)} {ord hs hs2 pk ls : List Int}
theorem BestB.first (h : BestB vl ns most L ord hs tot) (hf : tot < 0) (hfe : feasF vl ns most pk = some ls) (hp : permH hs2 pk = ls) (h0 : 0 ≤ sumI ls) (hok : okPick vl.length pk) (hpl : pk.length = vl.length) (hll : hs2.length = vl.length) : BestB vl ns most (L ++ [pk]) pk hs2 (sumI ls) := by
  subst hp
  rcases h with ⟨_, h, _⟩ | ⟨h, _⟩
  · exact .inr ⟨h0, by rw [bestF_snoc, h, stepF_first hfe], hok, hpl, hll, rfl⟩
  · omega
theorem BestB.less (h : BestB vl ns most L ord hs tot) (hf : ¬ tot < 0) (hfe : feasF vl ns most pk = some ls) (hlt : sumI ls < tot) (hp : permH hs2 pk = ls) (h0 : 0 ≤ sumI ls) (hok : okPick vl.length pk) (hpl : pk.length = vl.length) (hll : hs2.length = vl.length) : BestB vl ns most (L ++ [pk]) pk hs2 (sumI ls) := by
  subst hp
  rcases h with ⟨h, _⟩ | ⟨_, h, _, _, _, ht⟩
  · omega
  · exact .inr ⟨h0, by rw [bestF_snoc, h, stepF_less hfe (by rw [← ht]; exact hlt)], hok, hpl, hll, rfl⟩
theorem BestB.more (h : BestB vl ns most L ord hs tot) (hf : ¬ tot < 0) (hfe : feasF vl ns most pk = some ls) (hlt : ¬ sumI ls < tot) : BestB vl ns most (L ++ [pk]) ord hs tot := by
  rcases h with ⟨h, _⟩ | ⟨h0, h, h1, h2, h3, ht⟩
  · omega
  · exact .inr ⟨h0, by rw [bestF_snoc, h, stepF_more hfe (by rw [← ht]; exact hlt)], h1, h2, h3, ht⟩
theorem BestB.none (h : BestB vl ns most L ord hs tot) (hn : feasF vl ns most pk = none) : BestB vl ns most (L ++ [pk]) ord hs tot := by
  rcases h with ⟨h0, h, h1⟩ | ⟨h0, h, h1⟩
  · exact .inl ⟨h0, by rw [bestF_snoc, stepF_none hn]; exact h, h1⟩
  · exact .inr ⟨h0, by rw [bestF_snoc, stepF_none hn]; exact h, h1⟩
end
theorem holdsR_rng {vl : List Voy} {ns : List Nar} {most a e : Int} {ls : List Int} (h : HoldsR vl ns most ls a e) (hm : most ≤ 5000) : ∀ x ∈ ls, 0 ≤ x ∧ x ≤ 5000 := by
  rcases h with ⟨_, _, hl, h⟩ | ⟨_, _, _, _, rfl, _⟩
  · intro x hx
    obtain ⟨j, hj, rfl⟩ := List.mem_iff_getElem.1 hx
    have := h j (by omega)
    rw [nth_eq hj] at this
    exact ⟨this.1.1, by omega⟩
  · intro x hx; cases hx
theorem holdsR_bad {vl : List Voy} {ns : List Nar} {most a e : Int} {ls pk : List Int} (h : HoldsR (permV vl pk) ns most ls a e) (he : e ≠ 0) : feasF vl ns most pk = none := feas_none fun hs h0 => he (HoldsR.unique h h0).2.2
theorem holdsR_ok {vl : List Voy} {ns : List Nar} {most a e : Int} {ls pk : List Int} (h : HoldsR (permV vl pk) ns most ls a e) (he : e = 0) : feasF vl ns most pk = some ls ∧ ls.length = pk.length := by
  subst he
  have ha : a = 0 := by
    rcases h with ⟨_, h, _⟩ | ⟨_, _, h, _⟩
    · exact h
    · cases h
  subst ha
  refine ⟨feas_some h, ?_⟩
  rcases h with ⟨_, _, h, _⟩ | ⟨_, _, h, _⟩
  · simpa [permV] using h
  · cases h
theorem set_step {hs pk ls : List Int} {k n : Nat} (hok : okPick n pk) (hl : hs.length = n) (hk : k < pk.length) (h : ∀ j, j < k → nth hs (nth pk j).toNat = nth ls j) : ∀ j, j < k + 1 → nth (hs.set (nth pk k).toNat (nth ls k)) (nth pk j).toNat = nth ls j := fun j hj => by
  have hr := hok.1 _ (nth_mem hk)
  rcases Nat.lt_or_ge j k with q | q
  · have hr2 := hok.1 _ (nth_mem (show j < pk.length by omega))
    have hne := nodup_nth hok.2 q hk
    rw [nth_set_ne (by omega)]; exact h j q
  · have e : j = k := by omega
    subst e; rw [nth_set_eq (by omega)]
theorem permH_of {hs pk ls : List Int} (hl : ls.length = pk.length) (h : ∀ j, j < pk.length → nth hs (nth pk j).toNat = nth ls j) : permH hs pk = ls :=
  ext_nth (by simp [permH, hl]) fun j hj => by
    have hj' : j < pk.length := by simpa [permH] using hj
    rw [permH_nth hj']; exact h j hj'
theorem permH_inj {n : Nat} {ls hs ord : List Int} (hok : okPick n ord) (ho : ord.length = n) (hl : ls.length = n) (hh : hs.length = n) (h : permH ls ord = permH hs ord) : ls = hs :=
  ext_nth (by omega) fun j hj => by
    have hm : (j : Int) ∈ ord := (hok.perm ho).mem_iff.2 (by unfold ordL; exact List.mem_map.2 ⟨j, by simp; omega, rfl⟩)
    obtain ⟨q, hq, e⟩ := List.mem_iff_getElem.1 hm
    have e1 : nth ord q = (j : Int) := by rw [nth_eq hq]; exact e
    have h1 : nth (permH ls ord) q = nth (permH hs ord) q := by rw [h]
    rw [permH_nth hq, permH_nth hq, e1] at h1
    simpa using h1
def pickV (vs : List HVoy) (pk : List Int) : List HVoy := pk.map fun j => nth vs j.toNat
theorem pickV_v {vs : List HVoy} {pk : List Int} : (pickV vs pk).map HVoy.v = permV (vs.map HVoy.v) pk := by
  unfold pickV permV; rw [List.map_map]
  refine List.map_congr_left fun j _ => ?_
  rw [nth_mapv]; rfl
theorem pickV_mem {vs : List HVoy} {pk : List Int} (hok : okPick vs.length pk) {x : HVoy} (hx : x ∈ pickV vs pk) : x ∈ vs := by
  obtain ⟨j, hj, rfl⟩ := List.mem_map.1 hx
  have := hok.1 j hj
  exact nth_mem (by omega)
theorem pickV_take {vs : List HVoy} {pk : List Int} {k : Nat} (hk : k < pk.length) : pickV vs (pk.take (k + 1)) = pickV vs (pk.take k) ++ [nth vs (nth pk k).toNat] := by
  unfold pickV; rw [take_nth hk, List.map_append]; rfl
theorem mem_upto {pk : List Int} {x : Int} {j : Nat} (hj : pk.length ≤ j) (h : ∀ p, p < j → nth pk p ≠ x) : ¬ x ∈ pk := fun hm => by
  obtain ⟨p, hp, e⟩ := List.mem_iff_getElem.1 hm
  exact h p (by omega) ((nth_eq hp).trans e)
def ROrdQ (P : Program) (vs : List HVoy) (av : Option Addr) (bv ov cv : Nat) (ns : List Nar) (an : Option Addr) (bn on cn : Nat) (most : Int) (m : Nat) : Prop :=
  ∀ (pk : List Int) (ap : Option Addr) (bp cp : Nat) (L : List (List Int)) (ord hs : List Int) (tot : Int) (aoO : Option Addr) (bO cO : Nat) (aoH : Option Addr) (bH cH : Nat) (w0 : World), Sl encHVoy 5 w0 av bv ov vs → (∀ x ∈ vs, Sl encRun 6 w0 x.ao x.b x.o x.v.runs) → Sl encNar 4 w0 an bn on ns → Sl encI 1 w0 ap bp 0 pk → okPick vs.length pk → pk.length + m = vs.length →
    Sl encI 1 w0 aoO bO 0 ord → Sl encI 1 w0 aoH bH 0 hs → BestB (vs.map HVoy.v) ns most L ord hs tot →
    CallsV P 87 [.slice av vs.length cv, .slice an ns.length cn, .int .i64 most, .slice ap pk.length cp, .agg #[.slice aoO (List.length ord) cO, .slice aoH (List.length hs) cH, .int .i64 tot]] w0 (fun v w' => (∃ ordR hsR totR aoOR bOR cOR aoHR bHR cHR, v = .agg #[.slice aoOR (List.length ordR) cOR, .slice aoHR (List.length hsR) cHR, .int .i64 totR] ∧ Sl encI 1 w' aoOR bOR 0 ordR ∧ Sl encI 1 w' aoHR bHR 0 hsR ∧ BestB (vs.map HVoy.v) ns most (L ++ permsF vs.length m pk) ordR hsR totR ∧ (0 < ordR.length → (bOR = bO ∧ 0 < ord.length) ∨ w0.heap.size ≤ bOR) ∧ (0 < hsR.length → (bHR = bH ∧ 0 < hs.length) ∨ w0.heap.size ≤ bHR)) ∧ Ext w0 w')

theorem own87 : Own Try.prog 87 := ⟨Try.f87, Try.func87, by kernel_rfl, by kernel_rfl⟩
theorem own53 : Own Try.prog 53 := ⟨Try.f53, Try.func53, by kernel_rfl, by kernel_rfl⟩

theorem Wr.ofInts {w : World} {b : Nat} {xs : List Int} (h : Blk w b 3 (xs.map (Value.int .i64))) : Wr encI 1 3 w b xs := ⟨fun hp => ⟨_, h, by simp, fun i hi r v hv => by
  match r, hv with
  | 0, hv =>
    simp [encI] at hv
    rw [← hv, nth_eq hi]; simp [hi]⟩⟩

set_option maxHeartbeats 4000000 in
theorem rOrder_s (vs : List HVoy) (av : Option Addr) (bv ov cv : Nat) (ns : List Nar) (an : Option Addr) (bn on cn : Nat) (most : Int) (m : Nat) (pk : List Int) (ap : Option Addr) (bp cp : Nat) (Lx : List (List Int)) (ord hs : List Int) (tot : Int) (aoO : Option Addr) (bO cO : Nat) (aoH : Option Addr) (bH cH : Nat) (w0 : World) (hsV : Sl encHVoy 5 w0 av bv ov vs) (hruns : ∀ x ∈ vs, Sl encRun 6 w0 x.ao x.b x.o x.v.runs) (hn : Sl encNar 4 w0 an bn on ns) (hpk : Sl encI 1 w0 ap bp 0 pk) (hok : okPick vs.length pk) (hlen : pk.length + m = vs.length) (hO : Sl encI 1 w0 aoO bO 0 ord) (hH : Sl encI 1 w0 aoH bH 0 hs) (hB : BestB (vs.map HVoy.v) ns most Lx ord hs tot) (hv6 : vs.length ≤ 6) (hnl : ns.length ≤ 20) (hokv : ∀ x ∈ vs, okVoy x.v = true) (hokn : ∀ n ∈ ns, okNar n = true) (hthr : ∀ x ∈ vs, ∀ n ∈ ns, thrE x.v n = 0) (hmost : 0 ≤ most ∧ most ≤ 5000) (ih : ∀ q, q + 1 = m → ROrdQ Try.prog vs av bv ov cv ns an bn on cn most q) :
    CallsV Try.prog 87 [.slice av vs.length cv, .slice an ns.length cn, .int .i64 most, .slice ap pk.length cp, .agg #[.slice aoO (List.length ord) cO, .slice aoH (List.length hs) cH, .int .i64 tot]] w0 (fun v w' => (∃ ordR hsR totR aoOR bOR cOR aoHR bHR cHR, v = .agg #[.slice aoOR (List.length ordR) cOR, .slice aoHR (List.length hsR) cHR, .int .i64 totR] ∧ Sl encI 1 w' aoOR bOR 0 ordR ∧ Sl encI 1 w' aoHR bHR 0 hsR ∧ BestB (vs.map HVoy.v) ns most (Lx ++ permsF vs.length m pk) ordR hsR totR ∧ (0 < ordR.length → (bOR = bO ∧ 0 < ord.length) ∨ w0.heap.size ≤ bOR) ∧ (0 < hsR.length → (bHR = bH ∧ 0 < hs.length) ∨ w0.heap.size ≤ bHR)) ∧ Ext w0 w') := by
 have E0 := Upd.refl (fun _ => False) w0
 refine f_enter (N := 138) Try.func87 rfl rfl rfl ?_
 change WC _ _ _ _ _ _ [(0, .slice av vs.length cv), (1, .slice an ns.length cn), (2, .int .i64 most), (3, .slice ap pk.length cp), (4, .agg #[.slice aoO (List.length ord) cO, .slice aoH (List.length hs) cH, .int .i64 tot])] _
 refine c_seq fun K1 hK1 => (c_region (t_box (cs := [.slice aoO (List.length ord) cO, .slice aoH (List.length hs) cH, .int .i64 tot]) rfl rfl rfl rfl (fun bk2 w3 ebk2 sbk2 B4 u5 => ?_)))
 have zu5 := u5.size
 have E6 := E0.next u5 (fun _ _ h => h.elim)
 refine t_alloc (cs := [.slice none 0 0, .slice none 0 0, .int .i64 0]) Try.zeroValue103 rfl rfl rfl (fun bk7 w8 ebk7 sbk7 B9 u10 => ?_)
 have zu10 := u10.size
 have E11 := E6.next u10 (fun _ _ h => h.elim)
 refine t_nil' (hK1 _ _ (c_seq fun K12 hK12 => (c_seq fun K13 hK13 => (c_region (t_move rfl rfl rfl (t_len Try.underlying27 rfl rfl rfl rfl (t_move rfl rfl rfl (t_len Try.underlying34 rfl rfl rfl rfl (t_cmp rfl rfl rfl rfl rfl (t_nil' (hK13 _ _ (c_condp rfl (fun g26 => ?_) (fun g26 => ?_)))))))))))))
 ·
  have hm0 : m = 0 := by omega
  have hpl : pk.length = vs.length := by omega
  have hok2 : okPick (vs.map HVoy.v).length pk := by rw [List.length_map]; exact hok
  have hpl2 : pk.length = (vs.map HVoy.v).length := by rw [List.length_map]; exact hpl
  refine c_seq fun K14 hK14 => (c_region (t_bslice (ps := []) (cs := []) (e := 48) rfl rfl ⟨rfl, rfl⟩ (fun w => by kernel_rfl) (fun bk15 w16 ebk15 sbk15 B17 u18 => ?_)))
  have zu18 := u18.size
  have E19 := E11.next u18 (fun _ _ h => h.elim)
  refine t_assign rfl rfl rfl (t_nil' (hK14 _ _ (c_seq fun K20 hK20 => (c_seq fun K21 hK21 => (c_region (t_assign rfl rfl rfl (t_nil' (hK21 _ _ (c_block (c_loop (γ := Nat × Option Addr × Nat × Nat × List HVoy) (fun gg => [(0, .slice av vs.length cv), (1, .slice an ns.length cn), (2, .int .i64 most), (3, .slice ap pk.length cp), (9, .pointer (some ⟨bk2, 0, none⟩)), (10, .pointer (some ⟨bk7, 0, none⟩)), (11, .slice gg.2.1 gg.2.2.2.2.length gg.2.2.2.1), (12, .int .i64 (gg.1 : Int))]) (fun gg w => Upd (fun i => i = bk15) w16 w ∧ (gg.1 ≤ pk.length) ∧ (gg.2.2.2.2 = pickV vs (pk.take gg.1)) ∧ (gg.2.2.2.2.length = gg.1) ∧ (Acc encHVoy 5 48 bk15 w gg.2.1 gg.2.2.1 gg.2.2.2.1 gg.2.2.2.2)) (fun gg => pk.length - gg.1) (0, some ⟨bk15, 0, none⟩, bk15, 0, []) ⟨rfl, rfl, rfl, rfl, rfl, rfl, rfl, rfl, trivial⟩ ⟨Upd.refl _ _, (Nat.zero_le _), rfl, rfl, (Acc.lit encHVoy 5 B17 (Nat.le_refl _))⟩ ?_))))))))))
  intro gg w23 hW K22 hK22
  obtain ⟨k, ao2, g2, c2, us⟩ := gg
  change WC _ _ _ _ _ _ [(0, .slice av vs.length cv), (1, .slice an ns.length cn), (2, .int .i64 most), (3, .slice ap pk.length cp), (9, .pointer (some ⟨bk2, 0, none⟩)), (10, .pointer (some ⟨bk7, 0, none⟩)), (11, .slice ao2 us.length c2), (12, .int .i64 (k : Int))] _
  change Upd (fun i => i = bk15) w16 w23 ∧ (k ≤ pk.length) ∧ (us = pickV vs (pk.take k)) ∧ (us.length = k) ∧ (Acc encHVoy 5 48 bk15 w23 ao2 g2 c2 us) at hW
  obtain ⟨u24, I25, I26, I27, I28⟩ := hW
  have zu24 := u24.size
  have E29 := E19.next u24 (fun i hi (h : i = bk15) => show False by first | omega | assumption)
  have hk := I25; clear I25
  have hus := I26; clear I26
  have hul := I27; clear I27
  have hacc := I28; clear I28
  have lt_g2 := hacc.lt
  refine c_seq fun K30 hK30 => (c_seq fun K31 hK31 => (c_region (t_move rfl rfl rfl (t_move rfl rfl rfl (t_len Try.underlying27 rfl rfl rfl rfl (t_cmp rfl rfl rfl rfl rfl (t_nil' (hK31 _ _ (c_condp rfl (fun g31 => ?_) (fun g31 => ?_))))))))))
  ·
   have hpr := hok.1 _ (nth_mem (xs := pk) (i := k) (by omega))
   refine c_skip (hK30 _ _ (c_seq fun K32 hK32 => (c_block (c_region (t_move rfl rfl rfl (t_move rfl rfl rfl (t_move rfl rfl rfl (t_move rfl rfl rfl ?_))))))))
   have i33 : k < pk.length := (by omega)
   refine t_index (j := k) Try.underlying27 Try.sizeOf3 rfl rfl rfl rfl ((hpk.keep E29 (fun _ h => h)).addr (by omega)) rfl i33 (t_load Try.isAgg3 rfl rfl rfl (((hpk.keep E29 (fun _ h => h)).at_ k (by omega)) 0 _ rfl) ?_)
   have i34 : (nth pk k).toNat < vs.length := (by omega)
   refine t_index (j := (nth pk k).toNat) Try.underlying34 Try.sizeOf48 rfl rfl rfl rfl ((hsV.keep E29 (fun _ h => h)).addr (by omega)) (by omega) i34 (t_loadN (vs := [.int .i64 ((nth vs ((nth pk k).toNat)).v.st.lo), .int .i64 ((nth vs ((nth pk k).toNat)).v.st.hi), .slice ((nth vs ((nth pk k).toNat)).ao) (((nth vs ((nth pk k).toNat)).v.runs).length) ((nth vs ((nth pk k).toNat)).cap), .int .i64 ((nth vs ((nth pk k).toNat)).v.len), .int .i64 ((nth vs ((nth pk k).toNat)).v.wid)]) Try.isAgg48 Try.sizeOf48 rfl rfl rfl (((hsV.keep E29 (fun _ h => h)).at_ ((nth pk k).toNat) (by omega)).sub 0 5) rfl (t_bslice (ps := [(0, .agg #[.int .i64 ((nth vs ((nth pk k).toNat)).v.st.lo), .int .i64 ((nth vs ((nth pk k).toNat)).v.st.hi), .slice ((nth vs ((nth pk k).toNat)).ao) (((nth vs ((nth pk k).toNat)).v.runs).length) ((nth vs ((nth pk k).toNat)).cap), .int .i64 ((nth vs ((nth pk k).toNat)).v.len), .int .i64 ((nth vs ((nth pk k).toNat)).v.wid)])]) (cs := [.int .i64 ((nth vs ((nth pk k).toNat)).v.st.lo), .int .i64 ((nth vs ((nth pk k).toNat)).v.st.hi), .slice ((nth vs ((nth pk k).toNat)).ao) (((nth vs ((nth pk k).toNat)).v.runs).length) ((nth vs ((nth pk k).toNat)).cap), .int .i64 ((nth vs ((nth pk k).toNat)).v.len), .int .i64 ((nth vs ((nth pk k).toNat)).v.wid)]) (e := 48) rfl rfl ⟨rfl, rfl⟩ (fun w => by kernel_rfl) (fun bk35 w36 ebk35 sbk35 B37 u38 => ?_)))
   have zu38 := u38.size
   have D40 := (hacc.keep u38 (fun _ h => h))
   refine t_append (z := .agg #[.int .i64 0, .int .i64 0, .slice none 0 0, .int .i64 0, .int .i64 0]) (bytes := 56) (k := 5) (base := bk15) (nth vs (nth pk k).toNat) Try.underlying34 (by kernel_rfl) rfl (by decide) (fun _ => rfl) (by intro x; simp [encHVoy, Value.oneCell']) rfl rfl rfl rfl D40 B37 (by omega) (by omega) (by decide) (fun ao41 gb42 cp43 w44 A45 u46 gegb42 lngb42 => ?_)
   have zu46 := u46.size
   have lt_gb42 := A45.lt
   refine t_assign rfl rfl rfl (t_nil' (hK32 _ _ (c_region (t_move rfl rfl rfl (t_ari rfl rfl rfl rfl rfl (by omega) (t_assign rfl rfl rfl (t_nil' ?_)))))))
   exact hK22 (k + 1, ao41, gb42, cp43, (us ++ [(nth vs (nth pk k).toNat)])) _ _ (by show pk.length - (k + 1) < pk.length - k; omega) ⟨rfl, rfl, rfl, rfl, rfl, rfl, rfl, rfl, trivial⟩ ⟨((u24.next u38 (fun _ _ h => h.elim)).next u46 (fun i hi (h : (i = g2 ∧ bk15 ≤ i)) => show i = bk15 by first | omega | assumption)), (by show (k + 1) ≤ pk.length; omega), (by rw [hus, pickV_take (by omega)]), (by show (us ++ [_]).length = k + 1; simp [hul]), A45⟩
  ·
   refine c_exit (hK20 _ _ (c_seq fun K48 hK48 => (c_region (t_move rfl rfl rfl (t_move rfl rfl rfl (t_move rfl rfl rfl ?_))))))
   have huk : us = pickV vs pk := by rw [hus, List.take_of_length_le (by omega)]
   have hmem : ∀ x ∈ us, x ∈ vs := fun x hx => pickV_mem hok (by rw [← huk]; exact hx)
   refine t_call (vs := [.slice ao2 us.length c2, .slice an ns.length cn, .int .i64 most]) own27 rfl rfl rfl rfl (rHolds_c us ao2 g2 0 c2 ns an bn on cn most _ (hacc.sl (fun _ => rfl)) (fun x hx => (hruns x (hmem x hx)).keep E29 (fun _ h => h)) (hn.keep E29 (fun _ h => h)) (by omega) (by omega) (fun x hx => hokv x (hmem x hx)) hokn (fun x hx => hthr x (hmem x hx)) hmost) (fun v49 w50 r52 => ?_)
   obtain ⟨⟨ls, aL, eL, aoL, bL, cpL, rfl, hSL, hHR, hfL⟩, u51⟩ := r52
   have zu51 := u51.size
   have E53 := E29.next u51 (fun _ _ h => h.elim)
   rw [huk, pickV_v] at hHR
   have hlsr := holdsR_rng hHR hmost.2
   have hlsl : ls.length ≤ 6 := by have h := holdsR_len hHR; simp [permV] at h; omega
   refine t_move rfl rfl rfl (t_extract (vs := [.slice aoL ls.length cpL, .int .i64 aL, .int .i64 eL]) rfl rfl rfl rfl (t_extract (vs := [.slice aoL ls.length cpL, .int .i64 aL, .int .i64 eL]) rfl rfl rfl rfl (t_extract (vs := [.slice aoL ls.length cpL, .int .i64 aL, .int .i64 eL]) rfl rfl rfl rfl (t_assign rfl rfl rfl (t_assign rfl rfl rfl (t_assign rfl rfl rfl (t_nil' (hK48 _ _ (c_seq fun K54 hK54 => (c_region (t_assign rfl rfl rfl (t_nil' (hK54 _ _ (c_seq fun K55 hK55 => (c_seq fun K56 hK56 => (c_region (t_assign rfl rfl rfl (t_nil' (hK56 _ _ (c_block (c_loop (γ := Nat) (fun k => [(0, .slice av vs.length cv), (3, .slice ap pk.length cp), (9, .pointer (some ⟨bk2, 0, none⟩)), (10, .pointer (some ⟨bk7, 0, none⟩)), (13, .slice aoL ls.length cpL), (15, .int .i64 eL), (16, .int .i64 (sumI (ls.take k))), (17, .int .i64 (k : Int))]) (fun k w => Upd (fun _ => False) w50 w ∧ (k ≤ ls.length)) (fun k => ls.length - k) 0 ⟨rfl, rfl, rfl, rfl, rfl, rfl, rfl, rfl, trivial⟩ ⟨Upd.refl _ _, (Nat.zero_le _)⟩ ?_)))))))))))))))))))))
   intro k w58 hW K57 hK57
   obtain ⟨u59, I60⟩ := hW
   have zu59 := u59.size
   have E61 := E53.next u59 (fun _ _ h => h.elim)
   have hk2 := I60; clear I60
   have hsr := sumI_take_rng hlsr k (by omega)
   refine c_seq fun K62 hK62 => (c_seq fun K63 hK63 => (c_region (t_move rfl rfl rfl (t_move rfl rfl rfl (t_len Try.underlying27 rfl rfl rfl rfl (t_cmp rfl rfl rfl rfl rfl (t_nil' (hK63 _ _ (c_condp rfl (fun g55 => ?_) (fun g55 => ?_))))))))))
   ·
    refine c_skip (hK62 _ _ (c_seq fun K64 hK64 => (c_block (c_region (t_move rfl rfl rfl (t_move rfl rfl rfl (t_move rfl rfl rfl ?_)))))))
    have D65 := (hSL.keep u59 (fun _ h => h))
    have i66 : k < ls.length := (by omega)
    refine t_index (j := k) Try.underlying27 Try.sizeOf3 rfl rfl rfl rfl (D65.addr (by omega)) rfl i66 (t_load Try.isAgg3 rfl rfl rfl ((D65.at_ k (by omega)) 0 _ rfl) ?_)
    have hnr := hlsr _ (nth_mem (xs := ls) (i := k) (by omega))
    refine t_ari rfl rfl rfl rfl rfl (by omega) (t_assign rfl rfl rfl (t_nil' (hK64 _ _ (c_region (t_move rfl rfl rfl (t_ari rfl rfl rfl rfl rfl (by omega) (t_assign rfl rfl rfl (t_nil' ?_))))))))
    exact hK57 (k + 1) _ _ (by omega) ⟨rfl, rfl, rfl, rfl, rfl, rfl, (congrArg some (congrArg (Value.int .i64) (by show sumI (ls.take k) + nth ls k = sumI (ls.take (k + 1)); rw [take_nth (by omega), sumI_snoc]))), rfl, trivial⟩ ⟨u59, (by omega)⟩
   ·
    have hk1 : ls.take k = ls := List.take_of_length_le (by omega)
    refine c_same 16 (v := .int .i64 (sumI ls)) rfl (by rw [hk1]) ?_
    have hsr := sumI_take_rng hlsr k (by omega)
    rw [hk1] at hsr
    refine c_exit (hK55 _ _ (c_seq fun K67 hK67 => (c_seq fun K68 hK68 => (c_region (t_move rfl rfl rfl (t_cmp rfl rfl rfl rfl rfl (t_move rfl rfl rfl (t_splitp 66 rfl (fun g66 => ?_) (fun g66 => ?_)))))))))
    ·
     have hfe := holdsR_ok hHR g66
     refine t_field Try.underlying103 rfl Try.sizeOf3 (2) rfl rfl rfl rfl ?_
     have B69 := (((((B4.keep u10 (fun h => h)).keep u18 (fun h => h)).keep u24 (show ¬ (bk2 = bk15) by first | omega | assumption)).keep u51 (fun h => h)).keep u59 (fun h => h))
     refine t_load Try.isAgg3 rfl rfl rfl (B69.get rfl) (t_cmp rfl rfl rfl rfl rfl (t_move rfl rfl rfl (t_splitp 70 rfl (fun g70 => ?_) (fun g70 => ?_))))
     ·
      refine t_skip rfl rfl rfl (t_skip rfl rfl rfl (t_skip rfl rfl rfl (t_skip rfl rfl rfl (t_pick_t rfl rfl rfl rfl (t_pick_t rfl rfl rfl rfl (t_nil' (hK68 _ _ (c_cond_t rfl (c_seq fun K70 hK70 => (WC.weak [(0, .slice av vs.length cv), (3, .slice ap pk.length cp), (9, .pointer (some ⟨bk2, 0, none⟩)), (10, .pointer (some ⟨bk7, 0, none⟩)), (13, .slice aoL ls.length cpL), (16, .int .i64 (sumI ls))] ⟨rfl, rfl, rfl, rfl, rfl, rfl, trivial⟩ (c_drawnS follows 9 7 [some (77, none), some (78, some (.slice ap pk.length cp)), some (79, none), some (80, some (.slice av vs.length cv)), some (81, some (.int .i64 (vs.length : Int))), some (82, none), some (83, some (.int .i64 (sumI ls)))] [[],[],[0,1],[],[3],[4,4],[],[2,5,6],[7,2,0,1,2,3,4,5,6,7]] (fun D ρ w => Upd (fun _ => False) w58 w ∧ (D 0 = true → ∃ bkA, ρ 0 = .slice (some ⟨bkA, 0, none⟩) 0 0 ∧ (D 2 = false → (Blk w bkA 3 [] ∧ w58.heap.size ≤ bkA))) ∧ (D 2 = true → ∃ aoC bC cpC bsC, ρ 2 = .slice aoC pk.length cpC ∧ (Acc encI 1 3 bsC w aoC bC cpC pk ∧ w58.heap.size ≤ bsC ∧ bsC ≤ bC)) ∧ (D 5 = true → ∃ bM, ρ 5 = .slice (some ⟨bM, 0, none⟩) vs.length vs.length ∧ (Wr encI 1 3 w bM (List.replicate vs.length (0 : Int)) ∧ w58.heap.size ≤ bM)) ∧ (D 2 = true → D 5 = true → 0 < pk.length → ∀ a b l c l2 c2, ρ 2 = .slice (some ⟨a, 0, none⟩) l c → ρ 5 = .slice (some ⟨b, 0, none⟩) l2 c2 → a ≠ b)) rfl rfl rfl rfl (by kernel_rfl) (by kernel_rfl) (by kernel_rfl) ⟨(Upd.drew _).to, (fun h => by cases h), (fun h => by cases h), (fun h => by cases h), (fun h => by cases h)⟩ ⟨?_, ?_, ?_, ?_, ?_, ?_, ?_, trivial⟩ ?_)))))))))))
      ·
       intro D ρ w71 hcD hnD hdD hW
       obtain ⟨u72, F73, F74, F75, P76⟩ := hW
       have zu72 := u72.size
       refine ⟨[], trivial, fun Lr => ?_⟩
       refine t_bslice (ps := []) (cs := []) (e := 3) rfl rfl ⟨rfl, rfl⟩ (fun w => by kernel_rfl) (fun bk78 w79 ebk78 sbk78 B80 u81 => ?_)
       have zu81 := u81.size
       exact dzn rfl ⟨(u72.next u81 (fun _ _ h => h.elim)), (fun _ => ⟨bk78, rfl, fun _ => ⟨B80, by omega⟩⟩), (fun h => absurd ((hcD.late 2 hnD rfl).symm.trans h) (by decide)), (fun h => by obtain ⟨bM, e, hB⟩ := F75 h; exact ⟨bM, e, ⟨(hB.1.keep u81 (fun _ h => h)), hB.2⟩⟩), P76⟩
      · exact pz rfl rfl rfl rfl fun _ _ _ h => h
      ·
       intro D ρ w83 hcD hnD hdD hW
       obtain ⟨u84, F85, F86, F87, P88⟩ := hW
       have zu84 := u84.size
       have E89 := E61.next u84 (fun _ _ h => h.elim)
       obtain ⟨bkA, e90, H91⟩ := F85 (hdD 0 rfl)
       have H92 := H91 hnD
       have lt_bkA := H92.1.lt
       refine ⟨[(77, .slice (some ⟨bkA, 0, none⟩) 0 0), (78, .slice ap pk.length cp)], ⟨fi 0 rfl rfl e90.symm, fi 1 rfl rfl rfl, trivial⟩, fun Lr => ?_⟩
       refine t_copyE (z := .int .i64 0) (bytes := 8) (k := 1) (enc := encI) (ys := pk) Try.underlying27 (by kernel_rfl) rfl (by decide) (fun _ => rfl) (by intro x; simp [encI, Value.oneCell']) rfl rfl rfl rfl H92.1 (hpk.keep E89 (fun _ h => h)) (by omega) (by decide) (fun ao96 gb97 cp98 w93 A95 u94 gegb97 => ?_)
       have zu94 := u94.size
       exact dzn rfl ⟨(u84.next u94 (fun _ _ h => h.elim)), (fun h => by obtain ⟨bkA, e, _⟩ := F85 h; exact ⟨bkA, e, fun h => by cases h⟩), (fun _ => ⟨ao96, gb97, cp98, bkA, rfl, ⟨A95, by omega, by omega⟩⟩), (fun h => by obtain ⟨bM, e, hB⟩ := F87 h; exact ⟨bM, e, ⟨(hB.1.keep u94 (fun _ h => h)), hB.2⟩⟩), (fun _ h1 hp a b l c l2 c2 e1 e2 => by obtain ⟨bM, e3, hB⟩ := F87 h1; have h4 := (A95.sl (fun _ => rfl)).addr hp; have e2 : ρ 5 = _ := e2; rw [e3] at e2; have e1 : (Value.slice _ _ _) = _ := e1; rw [h4] at e1; simp at e1 e2; have h5 := hB.1.lt (by simp; omega); have h6 := gegb97.2 hp; omega)⟩
      · exact pz rfl rfl rfl rfl fun _ _ _ h => h
      · exact fun D ρ w100 hcD hnD hdD hW => ⟨_, kf_fr [80], fun Lr => t_len Try.underlying34 rfl rfl rfl rfl (dz rfl hW)⟩
      ·
       intro D ρ w107 hcD hnD hdD hW
       obtain ⟨u108, F109, F110, F111, P112⟩ := hW
       have zu108 := u108.size
       refine ⟨_, kf_fr [81], fun Lr => ?_⟩
       refine t_makeI (n := vs.length) Try.underlying27 (by kernel_rfl) rfl rfl rfl rfl rfl (by omega) (fun bk114 w115 ebk114 sbk114 B116 u117 => ?_)
       have zu117 := u117.size
       exact dzn rfl ⟨(u108.next u117 (fun _ _ h => h.elim)), (fun h => by obtain ⟨bkA, e, hB⟩ := F109 h; exact ⟨bkA, e, fun h2 => ⟨((hB h2).1.keep u117 (fun h => h)), (hB h2).2⟩⟩), (fun h => by obtain ⟨aoC, bC, cpC, bsC, e, hB⟩ := F110 h; exact ⟨aoC, bC, cpC, bsC, e, ⟨(hB.1.keep u117 (fun _ h => h)), hB.2⟩⟩), (fun _ => ⟨bk114, rfl, ⟨Wr.ofInts B116, by omega⟩⟩), (fun h1 _ hp a b l c l2 c2 e1 e2 => by obtain ⟨aoC, bC, cpC, bsC, e3, hB⟩ := F110 h1; have h4 := (hB.1.sl (fun _ => rfl)).addr hp; have e1 : ρ 2 = _ := e1; rw [e3, h4] at e1; have e2 : (Value.slice _ _ _) = _ := e2; simp at e1 e2; have h5 := hB.1.lt; omega)⟩
      · exact pz rfl rfl rfl rfl fun _ _ _ h => h
      intro ρ w119 hW
      obtain ⟨u120, F121, F122, F123, P124⟩ := hW
      have zu120 := u120.size
      have E125 := E61.next u120 (fun _ _ h => h.elim)
      obtain ⟨aoC, bC, cpC, bsC, e127, H128⟩ := F122 rfl
      have lt_bC := H128.1.lt
      have ge_bC := H128.2
      have HCsl := H128.1.sl (fun _ => rfl)
      obtain ⟨bM, e129, H130⟩ := F123 rfl
      have ge_bM := H130.2
      have hneCM : 0 < pk.length → bC ≠ bM := fun hp => P124 rfl rfl hp _ _ _ _ _ _ (e127.trans (by rw [(HCsl).addr hp])) e129
      refine t_weak [(3, .slice ap pk.length cp), (9, .pointer (some ⟨bk2, 0, none⟩)), (10, .pointer (some ⟨bk7, 0, none⟩)), (13, .slice aoL ls.length cpL), (79, .slice aoC pk.length cpC), (82, .slice (some ⟨bM, 0, none⟩) vs.length vs.length), (83, .int .i64 (sumI ls))] ⟨rfl, rfl, rfl, rfl, (look_nd (j := 2) rfl rfl rfl e127), (look_nd (j := 5) rfl rfl rfl e129), rfl, trivial⟩ (t_build (ps := [(0, .slice aoC pk.length cpC), (1, .slice (some ⟨bM, 0, none⟩) vs.length vs.length), (2, .int .i64 (sumI ls))]) (v := .agg #[.slice aoC pk.length cpC, .slice (some ⟨bM, 0, none⟩) vs.length vs.length, .int .i64 (sumI ls)]) rfl rfl ⟨rfl, rfl⟩ (fun w => by kernel_rfl) ?_)
      have B131 := (B69.keep u120 (fun h => h))
      refine t_store (vs := [.slice aoC pk.length cpC, .slice (some ⟨bM, 0, none⟩) vs.length vs.length, .int .i64 (sumI ls)]) Try.sizeOf103 rfl rfl rfl B131 rfl rfl (Nat.le_of_ble_eq_true rfl) (by simp [Value.oneCell']) (fun w132 sw132 B134 u133 => ?_)
      have zu133 := u133.size
      have E135 := E125.next u133 (fun i hi (h : i = bk2) => show False by first | omega | assumption)
      have B134 : Blk w132 bk2 103 [.slice aoC pk.length cpC, .slice (some ⟨bM, 0, none⟩) vs.length vs.length, .int .i64 (sumI ls)] := B134
      refine t_nil' (hK70 _ _ (c_seq fun K136 hK136 => (c_region (t_assign rfl rfl rfl (t_nil' (hK136 _ _ (c_block ?_)))))))
      have D137 := (H130.1.keep u133 (fun _ => show ¬ (bM = bk2) by first | omega | assumption))
      refine c_loop (γ := Nat × List Int) (fun gg => [(3, .slice ap pk.length cp), (9, .pointer (some ⟨bk2, 0, none⟩)), (10, .pointer (some ⟨bk7, 0, none⟩)), (13, .slice aoL ls.length cpL), (18, .int .i64 (gg.1 : Int))]) (fun gg w => Upd (fun i => i = bM) w132 w ∧ (gg.1 ≤ pk.length) ∧ (Wr encI 1 3 w bM gg.2) ∧ (gg.2.length = vs.length) ∧ (∀ j, j < gg.1 → nth gg.2 (nth pk j).toNat = nth ls j)) (fun gg => pk.length - gg.1) (0, List.replicate vs.length (0 : Int)) ⟨rfl, rfl, rfl, rfl, rfl, trivial⟩ ⟨Upd.refl _ _, (Nat.zero_le _), D137, (by simp), (fun j hj => absurd hj (Nat.not_lt_zero _))⟩ ?_
      intro gg w139 hW K138 hK138
      obtain ⟨k, hk⟩ := gg
      change WC _ _ _ _ _ _ [(3, .slice ap pk.length cp), (9, .pointer (some ⟨bk2, 0, none⟩)), (10, .pointer (some ⟨bk7, 0, none⟩)), (13, .slice aoL ls.length cpL), (18, .int .i64 (k : Int))] _
      change Upd (fun i => i = bM) w132 w139 ∧ (k ≤ pk.length) ∧ (Wr encI 1 3 w139 bM hk) ∧ (hk.length = vs.length) ∧ (∀ j, j < k → nth hk (nth pk j).toNat = nth ls j) at hW
      obtain ⟨u140, I141, I142, I143, I144⟩ := hW
      have zu140 := u140.size
      have E145 := E135.next u140 (fun i hi (h : i = bM) => show False by first | omega | assumption)
      have hk3 := I141; clear I141
      have hWM := I142; clear I142
      have hkl := I143; clear I143
      have hkj := I144; clear I144
      refine c_seq fun K146 hK146 => (c_seq fun K147 hK147 => (c_region (t_move rfl rfl rfl (t_move rfl rfl rfl (t_len Try.underlying27 rfl rfl rfl rfl (t_cmp rfl rfl rfl rfl rfl (t_nil' (hK147 _ _ (c_condp rfl (fun g88 => ?_) (fun g88 => ?_))))))))))
      ·
       have hpr := hok.1 _ (nth_mem (xs := pk) (i := k) (by omega))
       have hlk := hfe.2
       refine c_skip (hK146 _ _ (c_seq fun K148 hK148 => (c_block ?_)))
       have B149 := (B134.keep u140 (show ¬ (bk2 = bM) by first | omega | assumption))
       refine WC.weak [(3, .slice ap pk.length cp), (9, .pointer (some ⟨bk2, 0, none⟩)), (10, .pointer (some ⟨bk7, 0, none⟩)), (13, .slice aoL ls.length cpL), (18, .int .i64 (k : Int))] ⟨rfl, rfl, rfl, rfl, rfl, trivial⟩ (c_drawnS follows 12 10 [some (91, some (.pointer (some ⟨bk2, 1, none⟩))), some (92, some (.slice (some ⟨bM, 0, none⟩) vs.length vs.length)), some (93, some (.slice ap pk.length cp)), some (94, some (.int .i64 (k : Int))), some (95, some (.pointer (some ⟨bp, 0 + k * 1, none⟩))), some (96, some (.int .i64 (nth pk k))), some (97, some (.slice aoL ls.length cpL)), some (98, some (.int .i64 (k : Int))), some (99, some (.pointer (some ⟨bL, 0 + k * 1, none⟩))), some (100, some (.int .i64 (nth ls k)))] [[],[0],[],[],[2,3],[4],[],[],[6,7],[8],[1,5,0,1,2,3,4,5,6,7,8,9],[10,9,0,1,2,3,4,5,6,7,8,9]] (fun _ _ w => Upd (fun _ => False) w139 w) rfl rfl rfl rfl (by kernel_rfl) (by kernel_rfl) (by kernel_rfl) (Upd.drew _).to ⟨?_, ?_, ?_, ?_, ?_, ?_, ?_, ?_, ?_, ?_, trivial⟩ ?_)
       · exact pzf Try.underlying103 rfl Try.sizeOf27 (1) rfl rfl rfl rfl rfl fun _ _ _ h => h
       ·
        intro D ρ w153 hcD hnD hdD hW
        have zhW := hW.size
        refine ⟨_, kf_fr [91], fun Lr => ?_⟩
        have B156 := (B149.keep hW (fun h => h))
        refine t_load Try.isAgg27 rfl rfl rfl (B156.get rfl) ?_
        exact dz rfl hW
       · exact pz rfl rfl rfl rfl fun _ _ _ h => h
       · exact pz rfl rfl rfl rfl fun _ _ _ h => h
       ·
        intro D ρ w157 hcD hnD hdD hW
        have zhW := hW.size
        have E159 := E145.next hW (fun _ _ h => h.elim)
        refine ⟨_, kf_fr [93, 94], fun Lr => ?_⟩
        have i160 : k < pk.length := (by omega)
        refine t_index (j := k) Try.underlying27 Try.sizeOf3 rfl rfl rfl rfl ((hpk.keep E159 (fun _ h => h)).addr (by omega)) rfl i160 ?_
        exact dz rfl hW
       ·
        intro D ρ w161 hcD hnD hdD hW
        have zhW := hW.size
        have E163 := E145.next hW (fun _ _ h => h.elim)
        refine ⟨_, kf_fr [95], fun Lr => ?_⟩
        refine t_load Try.isAgg3 rfl rfl rfl (((hpk.keep E163 (fun _ h => h)).at_ k (by omega)) 0 _ rfl) ?_
        exact dz rfl hW
       · exact pz rfl rfl rfl rfl fun _ _ _ h => h
       · exact pz rfl rfl rfl rfl fun _ _ _ h => h
       ·
        intro D ρ w164 hcD hnD hdD hW
        have zhW := hW.size
        refine ⟨_, kf_fr [97, 98], fun Lr => ?_⟩
        have D167 := (((((hSL.keep u59 (fun _ h => h)).keep u120 (fun _ h => h)).keep u133 (fun hp => by have hlt := hSL.lt hp; have hge := hfL hp; show ¬ (bL = bk2); omega)).keep u140 (fun hp => by have hlt := hSL.lt hp; have hge := hfL hp; show ¬ (bL = bM); omega)).keep hW (fun _ h => h))
        have i168 : k < ls.length := (by omega)
        refine t_index (j := k) Try.underlying27 Try.sizeOf3 rfl rfl rfl rfl (D167.addr (by omega)) rfl i168 ?_
        exact dz rfl hW
       ·
        intro D ρ w169 hcD hnD hdD hW
        have zhW := hW.size
        refine ⟨_, kf_fr [99], fun Lr => ?_⟩
        have D172 := (((((hSL.keep u59 (fun _ h => h)).keep u120 (fun _ h => h)).keep u133 (fun hp => by have hlt := hSL.lt hp; have hge := hfL hp; show ¬ (bL = bk2); omega)).keep u140 (fun hp => by have hlt := hSL.lt hp; have hge := hfL hp; show ¬ (bL = bM); omega)).keep hW (fun _ h => h))
        refine t_load Try.isAgg3 rfl rfl rfl ((D172.at_ k (by omega)) 0 _ rfl) ?_
        exact dz rfl hW
       intro ρ w173 hW
       have u174 : Upd (fun _ => False) w139 w173 := hW
       have zu174 := u174.size
       refine t_weak [(3, .slice ap pk.length cp), (9, .pointer (some ⟨bk2, 0, none⟩)), (10, .pointer (some ⟨bk7, 0, none⟩)), (13, .slice aoL ls.length cpL), (18, .int .i64 (k : Int)), (92, .slice (some ⟨bM, 0, none⟩) vs.length vs.length), (96, .int .i64 (nth pk k)), (100, .int .i64 (nth ls k))] ⟨rfl, rfl, rfl, rfl, rfl, rfl, rfl, rfl, trivial⟩ ?_
       have D176 := (hWM.keep u174 (fun _ h => h))
       have i177 : (nth pk k).toNat < hk.length := (by omega)
       refine t_index (j := (nth pk k).toNat) Try.underlying27 Try.sizeOf3 rfl rfl rfl rfl ((D176.sl (fun _ => rfl)).addr (by omega)) (by omega) (by omega) (t_storeW (vs := [.int .i64 (nth ls k)]) (j := (nth pk k).toNat) (o' := 0) (k := 1) (nth ls k) (fun _ => rfl) Try.sizeOf3 rfl rfl (by omega) rfl D176 (by omega) rfl rfl (by decide) (by simp [Value.oneCell']) rfl (fun w178 R180 u179 => ?_))
       have zu179 := u179.size
       refine t_nil' (hK148 _ _ (c_region (t_move rfl rfl rfl (t_ari rfl rfl rfl rfl rfl (by omega) (t_assign rfl rfl rfl (t_nil' ?_))))))
       exact hK138 (k + 1, hk.set (nth pk k).toNat (nth ls k)) _ _ (by show pk.length - (k + 1) < pk.length - k; omega) ⟨rfl, rfl, rfl, rfl, rfl, trivial⟩ ⟨((u140.next u174 (fun _ _ h => h.elim)).next u179 (fun i hi (h : i = bM) => show i = bM by first | omega | assumption)), (by show (k + 1) ≤ pk.length; omega), R180, (by show (hk.set _ _).length = vs.length; rw [List.length_set]; exact hkl), (set_step hok hkl (by omega) hkj)⟩
      ·
       have hpe := permH_of (hs := hk) hfe.2 (fun j hj => hkj j (by omega))
       have hkl2 : hk.length = (vs.map HVoy.v).length := by rw [List.length_map]; exact hkl
       refine c_exit (hK67 _ _ (c_seq fun K182 hK182 => (c_region ?_)))
       have B183 := (B134.keep u140 (show ¬ (bk2 = bM) by first | omega | assumption))
       refine t_loadN (vs := [.slice aoC pk.length cpC, .slice (some ⟨bM, 0, none⟩) vs.length vs.length, .int .i64 (sumI ls)]) Try.isAgg103 Try.sizeOf103 rfl rfl rfl (B183.at.sub 0 3) rfl ?_
       have B184 := (((((((B9.keep u18 (fun h => h)).keep u24 (show ¬ (bk7 = bk15) by first | omega | assumption)).keep u51 (fun h => h)).keep u59 (fun h => h)).keep u120 (fun h => h)).keep u133 (show ¬ (bk7 = bk2) by first | omega | assumption)).keep u140 (show ¬ (bk7 = bM) by first | omega | assumption))
       refine t_store (vs := [.slice aoC pk.length cpC, .slice (some ⟨bM, 0, none⟩) vs.length vs.length, .int .i64 (sumI ls)]) Try.sizeOf103 rfl rfl rfl B184 rfl rfl (Nat.le_of_ble_eq_true rfl) (by simp [Value.oneCell']) (fun w185 sw185 B187 u186 => ?_)
       have zu186 := u186.size
       have E188 := E145.next u186 (fun i hi (h : i = bk7) => show False by first | omega | assumption)
       have B187 : Blk w185 bk7 103 [.slice aoC pk.length cpC, .slice (some ⟨bM, 0, none⟩) vs.length vs.length, .int .i64 (sumI ls)] := B187
       refine t_nil' (hK182 _ _ (c_ret (f_ret1 (v := .agg #[.slice aoC pk.length cpC, .slice (some ⟨bM, 0, none⟩) vs.length vs.length, .int .i64 (sumI ls)]) Try.results87 ⟨_, _, rfl, run_loadVarN (vs := [.slice aoC pk.length cpC, .slice (some ⟨bM, 0, none⟩) vs.length vs.length, .int .i64 (sumI ls)]) Try.isAgg103 Try.sizeOf103 rfl (B187.at.sub 0 3)⟩ ?_)))
       have D189 := ((((H128.1.sl (fun _ => rfl)).keep u133 (fun hp => by have hne := hneCM hp; show ¬ (bC = bk2); omega)).keep u140 (fun hp => by have hne := hneCM hp; show ¬ (bC = bM); omega)).keep u186 (fun hp => by have hne := hneCM hp; show ¬ (bC = bk7); omega))
       have D190 := (hWM.keep u186 (fun _ => show ¬ (bM = bk7) by first | omega | assumption))
       exact ⟨⟨pk, hk, sumI ls, aoC, bC, cpC, some ⟨bM, 0, none⟩, bM, vs.length, by rw [hkl], D189, (D190.sl (fun _ => rfl)), by rw [hm0]; exact hB.first g70 hfe.1 hpe hsr.1 hok2 hpl2 hkl2, (fun hp => .inr (by omega)), (fun hp => .inr (by omega))⟩, E188⟩
     ·
      refine t_move rfl rfl rfl (t_field Try.underlying103 rfl Try.sizeOf3 (2) rfl rfl rfl rfl (t_load Try.isAgg3 rfl rfl rfl (B69.get rfl) (t_cmp rfl rfl rfl rfl rfl (t_pick_f rfl rfl rfl rfl (t_pick_t rfl rfl rfl rfl (t_nil' (hK68 _ _ (c_condp rfl (fun g76 => ?_) (fun g76 => ?_)))))))))
      ·
       refine c_seq fun K191 hK191 => (WC.weak [(0, .slice av vs.length cv), (3, .slice ap pk.length cp), (9, .pointer (some ⟨bk2, 0, none⟩)), (10, .pointer (some ⟨bk7, 0, none⟩)), (13, .slice aoL ls.length cpL), (16, .int .i64 (sumI ls))] ⟨rfl, rfl, rfl, rfl, rfl, rfl, trivial⟩ (c_drawnS follows 9 7 [some (77, none), some (78, some (.slice ap pk.length cp)), some (79, none), some (80, some (.slice av vs.length cv)), some (81, some (.int .i64 (vs.length : Int))), some (82, none), some (83, some (.int .i64 (sumI ls)))] [[],[],[0,1],[],[3],[4,4],[],[2,5,6],[7,2,0,1,2,3,4,5,6,7]] (fun D ρ w => Upd (fun _ => False) w58 w ∧ (D 0 = true → ∃ bkA, ρ 0 = .slice (some ⟨bkA, 0, none⟩) 0 0 ∧ (D 2 = false → (Blk w bkA 3 [] ∧ w58.heap.size ≤ bkA))) ∧ (D 2 = true → ∃ aoC bC cpC bsC, ρ 2 = .slice aoC pk.length cpC ∧ (Acc encI 1 3 bsC w aoC bC cpC pk ∧ w58.heap.size ≤ bsC ∧ bsC ≤ bC)) ∧ (D 5 = true → ∃ bM, ρ 5 = .slice (some ⟨bM, 0, none⟩) vs.length vs.length ∧ (Wr encI 1 3 w bM (List.replicate vs.length (0 : Int)) ∧ w58.heap.size ≤ bM)) ∧ (D 2 = true → D 5 = true → 0 < pk.length → ∀ a b l c l2 c2, ρ 2 = .slice (some ⟨a, 0, none⟩) l c → ρ 5 = .slice (some ⟨b, 0, none⟩) l2 c2 → a ≠ b)) rfl rfl rfl rfl (by kernel_rfl) (by kernel_rfl) (by kernel_rfl) ⟨(Upd.drew _).to, (fun h => by cases h), (fun h => by cases h), (fun h => by cases h), (fun h => by cases h)⟩ ⟨?_, ?_, ?_, ?_, ?_, ?_, ?_, trivial⟩ ?_))
       ·
        intro D ρ w192 hcD hnD hdD hW
        obtain ⟨u193, F194, F195, F196, P197⟩ := hW
        have zu193 := u193.size
        refine ⟨[], trivial, fun Lr => ?_⟩
        refine t_bslice (ps := []) (cs := []) (e := 3) rfl rfl ⟨rfl, rfl⟩ (fun w => by kernel_rfl) (fun bk199 w200 ebk199 sbk199 B201 u202 => ?_)
        have zu202 := u202.size
        exact dzn rfl ⟨(u193.next u202 (fun _ _ h => h.elim)), (fun _ => ⟨bk199, rfl, fun _ => ⟨B201, by omega⟩⟩), (fun h => absurd ((hcD.late 2 hnD rfl).symm.trans h) (by decide)), (fun h => by obtain ⟨bM, e, hB⟩ := F196 h; exact ⟨bM, e, ⟨(hB.1.keep u202 (fun _ h => h)), hB.2⟩⟩), P197⟩
       · exact pz rfl rfl rfl rfl fun _ _ _ h => h
       ·
        intro D ρ w204 hcD hnD hdD hW
        obtain ⟨u205, F206, F207, F208, P209⟩ := hW
        have zu205 := u205.size
        have E210 := E61.next u205 (fun _ _ h => h.elim)
        obtain ⟨bkA, e211, H212⟩ := F206 (hdD 0 rfl)
        have H213 := H212 hnD
        have lt_bkA := H213.1.lt
        refine ⟨[(77, .slice (some ⟨bkA, 0, none⟩) 0 0), (78, .slice ap pk.length cp)], ⟨fi 0 rfl rfl e211.symm, fi 1 rfl rfl rfl, trivial⟩, fun Lr => ?_⟩
        refine t_copyE (z := .int .i64 0) (bytes := 8) (k := 1) (enc := encI) (ys := pk) Try.underlying27 (by kernel_rfl) rfl (by decide) (fun _ => rfl) (by intro x; simp [encI, Value.oneCell']) rfl rfl rfl rfl H213.1 (hpk.keep E210 (fun _ h => h)) (by omega) (by decide) (fun ao217 gb218 cp219 w214 A216 u215 gegb218 => ?_)
        have zu215 := u215.size
        exact dzn rfl ⟨(u205.next u215 (fun _ _ h => h.elim)), (fun h => by obtain ⟨bkA, e, _⟩ := F206 h; exact ⟨bkA, e, fun h => by cases h⟩), (fun _ => ⟨ao217, gb218, cp219, bkA, rfl, ⟨A216, by omega, by omega⟩⟩), (fun h => by obtain ⟨bM, e, hB⟩ := F208 h; exact ⟨bM, e, ⟨(hB.1.keep u215 (fun _ h => h)), hB.2⟩⟩), (fun _ h1 hp a b l c l2 c2 e1 e2 => by obtain ⟨bM, e3, hB⟩ := F208 h1; have h4 := (A216.sl (fun _ => rfl)).addr hp; have e2 : ρ 5 = _ := e2; rw [e3] at e2; have e1 : (Value.slice _ _ _) = _ := e1; rw [h4] at e1; simp at e1 e2; have h5 := hB.1.lt (by simp; omega); have h6 := gegb218.2 hp; omega)⟩
       · exact pz rfl rfl rfl rfl fun _ _ _ h => h
       · exact fun D ρ w221 hcD hnD hdD hW => ⟨_, kf_fr [80], fun Lr => t_len Try.underlying34 rfl rfl rfl rfl (dz rfl hW)⟩
       ·
        intro D ρ w228 hcD hnD hdD hW
        obtain ⟨u229, F230, F231, F232, P233⟩ := hW
        have zu229 := u229.size
        refine ⟨_, kf_fr [81], fun Lr => ?_⟩
        refine t_makeI (n := vs.length) Try.underlying27 (by kernel_rfl) rfl rfl rfl rfl rfl (by omega) (fun bk235 w236 ebk235 sbk235 B237 u238 => ?_)
        have zu238 := u238.size
        exact dzn rfl ⟨(u229.next u238 (fun _ _ h => h.elim)), (fun h => by obtain ⟨bkA, e, hB⟩ := F230 h; exact ⟨bkA, e, fun h2 => ⟨((hB h2).1.keep u238 (fun h => h)), (hB h2).2⟩⟩), (fun h => by obtain ⟨aoC, bC, cpC, bsC, e, hB⟩ := F231 h; exact ⟨aoC, bC, cpC, bsC, e, ⟨(hB.1.keep u238 (fun _ h => h)), hB.2⟩⟩), (fun _ => ⟨bk235, rfl, ⟨Wr.ofInts B237, by omega⟩⟩), (fun h1 _ hp a b l c l2 c2 e1 e2 => by obtain ⟨aoC, bC, cpC, bsC, e3, hB⟩ := F231 h1; have h4 := (hB.1.sl (fun _ => rfl)).addr hp; have e1 : ρ 2 = _ := e1; rw [e3, h4] at e1; have e2 : (Value.slice _ _ _) = _ := e2; simp at e1 e2; have h5 := hB.1.lt; omega)⟩
       · exact pz rfl rfl rfl rfl fun _ _ _ h => h
       intro ρ w240 hW
       obtain ⟨u241, F242, F243, F244, P245⟩ := hW
       have zu241 := u241.size
       have E246 := E61.next u241 (fun _ _ h => h.elim)
       obtain ⟨aoC, bC, cpC, bsC, e248, H249⟩ := F243 rfl
       have lt_bC := H249.1.lt
       have ge_bC := H249.2
       have HCsl := H249.1.sl (fun _ => rfl)
       obtain ⟨bM, e250, H251⟩ := F244 rfl
       have ge_bM := H251.2
       have hneCM : 0 < pk.length → bC ≠ bM := fun hp => P245 rfl rfl hp _ _ _ _ _ _ (e248.trans (by rw [(HCsl).addr hp])) e250
       refine t_weak [(3, .slice ap pk.length cp), (9, .pointer (some ⟨bk2, 0, none⟩)), (10, .pointer (some ⟨bk7, 0, none⟩)), (13, .slice aoL ls.length cpL), (79, .slice aoC pk.length cpC), (82, .slice (some ⟨bM, 0, none⟩) vs.length vs.length), (83, .int .i64 (sumI ls))] ⟨rfl, rfl, rfl, rfl, (look_nd (j := 2) rfl rfl rfl e248), (look_nd (j := 5) rfl rfl rfl e250), rfl, trivial⟩ (t_build (ps := [(0, .slice aoC pk.length cpC), (1, .slice (some ⟨bM, 0, none⟩) vs.length vs.length), (2, .int .i64 (sumI ls))]) (v := .agg #[.slice aoC pk.length cpC, .slice (some ⟨bM, 0, none⟩) vs.length vs.length, .int .i64 (sumI ls)]) rfl rfl ⟨rfl, rfl⟩ (fun w => by kernel_rfl) ?_)
       have B252 := (B69.keep u241 (fun h => h))
       refine t_store (vs := [.slice aoC pk.length cpC, .slice (some ⟨bM, 0, none⟩) vs.length vs.length, .int .i64 (sumI ls)]) Try.sizeOf103 rfl rfl rfl B252 rfl rfl (Nat.le_of_ble_eq_true rfl) (by simp [Value.oneCell']) (fun w253 sw253 B255 u254 => ?_)
       have zu254 := u254.size
       have E256 := E246.next u254 (fun i hi (h : i = bk2) => show False by first | omega | assumption)
       have B255 : Blk w253 bk2 103 [.slice aoC pk.length cpC, .slice (some ⟨bM, 0, none⟩) vs.length vs.length, .int .i64 (sumI ls)] := B255
       refine t_nil' (hK191 _ _ (c_seq fun K257 hK257 => (c_region (t_assign rfl rfl rfl (t_nil' (hK257 _ _ (c_block ?_)))))))
       have D258 := (H251.1.keep u254 (fun _ => show ¬ (bM = bk2) by first | omega | assumption))
       refine c_loop (γ := Nat × List Int) (fun gg => [(3, .slice ap pk.length cp), (9, .pointer (some ⟨bk2, 0, none⟩)), (10, .pointer (some ⟨bk7, 0, none⟩)), (13, .slice aoL ls.length cpL), (18, .int .i64 (gg.1 : Int))]) (fun gg w => Upd (fun i => i = bM) w253 w ∧ (gg.1 ≤ pk.length) ∧ (Wr encI 1 3 w bM gg.2) ∧ (gg.2.length = vs.length) ∧ (∀ j, j < gg.1 → nth gg.2 (nth pk j).toNat = nth ls j)) (fun gg => pk.length - gg.1) (0, List.replicate vs.length (0 : Int)) ⟨rfl, rfl, rfl, rfl, rfl, trivial⟩ ⟨Upd.refl _ _, (Nat.zero_le _), D258, (by simp), (fun j hj => absurd hj (Nat.not_lt_zero _))⟩ ?_
       intro gg w260 hW K259 hK259
       obtain ⟨k, hk⟩ := gg
       change WC _ _ _ _ _ _ [(3, .slice ap pk.length cp), (9, .pointer (some ⟨bk2, 0, none⟩)), (10, .pointer (some ⟨bk7, 0, none⟩)), (13, .slice aoL ls.length cpL), (18, .int .i64 (k : Int))] _
       change Upd (fun i => i = bM) w253 w260 ∧ (k ≤ pk.length) ∧ (Wr encI 1 3 w260 bM hk) ∧ (hk.length = vs.length) ∧ (∀ j, j < k → nth hk (nth pk j).toNat = nth ls j) at hW
       obtain ⟨u261, I262, I263, I264, I265⟩ := hW
       have zu261 := u261.size
       have E266 := E256.next u261 (fun i hi (h : i = bM) => show False by first | omega | assumption)
       have hk3 := I262; clear I262
       have hWM := I263; clear I263
       have hkl := I264; clear I264
       have hkj := I265; clear I265
       refine c_seq fun K267 hK267 => (c_seq fun K268 hK268 => (c_region (t_move rfl rfl rfl (t_move rfl rfl rfl (t_len Try.underlying27 rfl rfl rfl rfl (t_cmp rfl rfl rfl rfl rfl (t_nil' (hK268 _ _ (c_condp rfl (fun g88 => ?_) (fun g88 => ?_))))))))))
       ·
        have hpr := hok.1 _ (nth_mem (xs := pk) (i := k) (by omega))
        have hlk := hfe.2
        refine c_skip (hK267 _ _ (c_seq fun K269 hK269 => (c_block ?_)))
        have B270 := (B255.keep u261 (show ¬ (bk2 = bM) by first | omega | assumption))
        refine WC.weak [(3, .slice ap pk.length cp), (9, .pointer (some ⟨bk2, 0, none⟩)), (10, .pointer (some ⟨bk7, 0, none⟩)), (13, .slice aoL ls.length cpL), (18, .int .i64 (k : Int))] ⟨rfl, rfl, rfl, rfl, rfl, trivial⟩ (c_drawnS follows 12 10 [some (91, some (.pointer (some ⟨bk2, 1, none⟩))), some (92, some (.slice (some ⟨bM, 0, none⟩) vs.length vs.length)), some (93, some (.slice ap pk.length cp)), some (94, some (.int .i64 (k : Int))), some (95, some (.pointer (some ⟨bp, 0 + k * 1, none⟩))), some (96, some (.int .i64 (nth pk k))), some (97, some (.slice aoL ls.length cpL)), some (98, some (.int .i64 (k : Int))), some (99, some (.pointer (some ⟨bL, 0 + k * 1, none⟩))), some (100, some (.int .i64 (nth ls k)))] [[],[0],[],[],[2,3],[4],[],[],[6,7],[8],[1,5,0,1,2,3,4,5,6,7,8,9],[10,9,0,1,2,3,4,5,6,7,8,9]] (fun _ _ w => Upd (fun _ => False) w260 w) rfl rfl rfl rfl (by kernel_rfl) (by kernel_rfl) (by kernel_rfl) (Upd.drew _).to ⟨?_, ?_, ?_, ?_, ?_, ?_, ?_, ?_, ?_, ?_, trivial⟩ ?_)
        · exact pzf Try.underlying103 rfl Try.sizeOf27 (1) rfl rfl rfl rfl rfl fun _ _ _ h => h
        ·
         intro D ρ w274 hcD hnD hdD hW
         have zhW := hW.size
         refine ⟨_, kf_fr [91], fun Lr => ?_⟩
         have B277 := (B270.keep hW (fun h => h))
         refine t_load Try.isAgg27 rfl rfl rfl (B277.get rfl) ?_
         exact dz rfl hW
        · exact pz rfl rfl rfl rfl fun _ _ _ h => h
        · exact pz rfl rfl rfl rfl fun _ _ _ h => h
        ·
         intro D ρ w278 hcD hnD hdD hW
         have zhW := hW.size
         have E280 := E266.next hW (fun _ _ h => h.elim)
         refine ⟨_, kf_fr [93, 94], fun Lr => ?_⟩
         have i281 : k < pk.length := (by omega)
         refine t_index (j := k) Try.underlying27 Try.sizeOf3 rfl rfl rfl rfl ((hpk.keep E280 (fun _ h => h)).addr (by omega)) rfl i281 ?_
         exact dz rfl hW
        ·
         intro D ρ w282 hcD hnD hdD hW
         have zhW := hW.size
         have E284 := E266.next hW (fun _ _ h => h.elim)
         refine ⟨_, kf_fr [95], fun Lr => ?_⟩
         refine t_load Try.isAgg3 rfl rfl rfl (((hpk.keep E284 (fun _ h => h)).at_ k (by omega)) 0 _ rfl) ?_
         exact dz rfl hW
        · exact pz rfl rfl rfl rfl fun _ _ _ h => h
        · exact pz rfl rfl rfl rfl fun _ _ _ h => h
        ·
         intro D ρ w285 hcD hnD hdD hW
         have zhW := hW.size
         refine ⟨_, kf_fr [97, 98], fun Lr => ?_⟩
         have D288 := (((((hSL.keep u59 (fun _ h => h)).keep u241 (fun _ h => h)).keep u254 (fun hp => by have hlt := hSL.lt hp; have hge := hfL hp; show ¬ (bL = bk2); omega)).keep u261 (fun hp => by have hlt := hSL.lt hp; have hge := hfL hp; show ¬ (bL = bM); omega)).keep hW (fun _ h => h))
         have i289 : k < ls.length := (by omega)
         refine t_index (j := k) Try.underlying27 Try.sizeOf3 rfl rfl rfl rfl (D288.addr (by omega)) rfl i289 ?_
         exact dz rfl hW
        ·
         intro D ρ w290 hcD hnD hdD hW
         have zhW := hW.size
         refine ⟨_, kf_fr [99], fun Lr => ?_⟩
         have D293 := (((((hSL.keep u59 (fun _ h => h)).keep u241 (fun _ h => h)).keep u254 (fun hp => by have hlt := hSL.lt hp; have hge := hfL hp; show ¬ (bL = bk2); omega)).keep u261 (fun hp => by have hlt := hSL.lt hp; have hge := hfL hp; show ¬ (bL = bM); omega)).keep hW (fun _ h => h))
         refine t_load Try.isAgg3 rfl rfl rfl ((D293.at_ k (by omega)) 0 _ rfl) ?_
         exact dz rfl hW
        intro ρ w294 hW
        have u295 : Upd (fun _ => False) w260 w294 := hW
        have zu295 := u295.size
        refine t_weak [(3, .slice ap pk.length cp), (9, .pointer (some ⟨bk2, 0, none⟩)), (10, .pointer (some ⟨bk7, 0, none⟩)), (13, .slice aoL ls.length cpL), (18, .int .i64 (k : Int)), (92, .slice (some ⟨bM, 0, none⟩) vs.length vs.length), (96, .int .i64 (nth pk k)), (100, .int .i64 (nth ls k))] ⟨rfl, rfl, rfl, rfl, rfl, rfl, rfl, rfl, trivial⟩ ?_
        have D297 := (hWM.keep u295 (fun _ h => h))
        have i298 : (nth pk k).toNat < hk.length := (by omega)
        refine t_index (j := (nth pk k).toNat) Try.underlying27 Try.sizeOf3 rfl rfl rfl rfl ((D297.sl (fun _ => rfl)).addr (by omega)) (by omega) (by omega) (t_storeW (vs := [.int .i64 (nth ls k)]) (j := (nth pk k).toNat) (o' := 0) (k := 1) (nth ls k) (fun _ => rfl) Try.sizeOf3 rfl rfl (by omega) rfl D297 (by omega) rfl rfl (by decide) (by simp [Value.oneCell']) rfl (fun w299 R301 u300 => ?_))
        have zu300 := u300.size
        refine t_nil' (hK269 _ _ (c_region (t_move rfl rfl rfl (t_ari rfl rfl rfl rfl rfl (by omega) (t_assign rfl rfl rfl (t_nil' ?_))))))
        exact hK259 (k + 1, hk.set (nth pk k).toNat (nth ls k)) _ _ (by show pk.length - (k + 1) < pk.length - k; omega) ⟨rfl, rfl, rfl, rfl, rfl, trivial⟩ ⟨((u261.next u295 (fun _ _ h => h.elim)).next u300 (fun i hi (h : i = bM) => show i = bM by first | omega | assumption)), (by show (k + 1) ≤ pk.length; omega), R301, (by show (hk.set _ _).length = vs.length; rw [List.length_set]; exact hkl), (set_step hok hkl (by omega) hkj)⟩
       ·
        have hpe := permH_of (hs := hk) hfe.2 (fun j hj => hkj j (by omega))
        have hkl2 : hk.length = (vs.map HVoy.v).length := by rw [List.length_map]; exact hkl
        refine c_exit (hK67 _ _ (c_seq fun K303 hK303 => (c_region ?_)))
        have B304 := (B255.keep u261 (show ¬ (bk2 = bM) by first | omega | assumption))
        refine t_loadN (vs := [.slice aoC pk.length cpC, .slice (some ⟨bM, 0, none⟩) vs.length vs.length, .int .i64 (sumI ls)]) Try.isAgg103 Try.sizeOf103 rfl rfl rfl (B304.at.sub 0 3) rfl ?_
        have B305 := (((((((B9.keep u18 (fun h => h)).keep u24 (show ¬ (bk7 = bk15) by first | omega | assumption)).keep u51 (fun h => h)).keep u59 (fun h => h)).keep u241 (fun h => h)).keep u254 (show ¬ (bk7 = bk2) by first | omega | assumption)).keep u261 (show ¬ (bk7 = bM) by first | omega | assumption))
        refine t_store (vs := [.slice aoC pk.length cpC, .slice (some ⟨bM, 0, none⟩) vs.length vs.length, .int .i64 (sumI ls)]) Try.sizeOf103 rfl rfl rfl B305 rfl rfl (Nat.le_of_ble_eq_true rfl) (by simp [Value.oneCell']) (fun w306 sw306 B308 u307 => ?_)
        have zu307 := u307.size
        have E309 := E266.next u307 (fun i hi (h : i = bk7) => show False by first | omega | assumption)
        have B308 : Blk w306 bk7 103 [.slice aoC pk.length cpC, .slice (some ⟨bM, 0, none⟩) vs.length vs.length, .int .i64 (sumI ls)] := B308
        refine t_nil' (hK303 _ _ (c_ret (f_ret1 (v := .agg #[.slice aoC pk.length cpC, .slice (some ⟨bM, 0, none⟩) vs.length vs.length, .int .i64 (sumI ls)]) Try.results87 ⟨_, _, rfl, run_loadVarN (vs := [.slice aoC pk.length cpC, .slice (some ⟨bM, 0, none⟩) vs.length vs.length, .int .i64 (sumI ls)]) Try.isAgg103 Try.sizeOf103 rfl (B308.at.sub 0 3)⟩ ?_)))
        have D310 := ((((H249.1.sl (fun _ => rfl)).keep u254 (fun hp => by have hne := hneCM hp; show ¬ (bC = bk2); omega)).keep u261 (fun hp => by have hne := hneCM hp; show ¬ (bC = bM); omega)).keep u307 (fun hp => by have hne := hneCM hp; show ¬ (bC = bk7); omega))
        have D311 := (hWM.keep u307 (fun _ => show ¬ (bM = bk7) by first | omega | assumption))
        exact ⟨⟨pk, hk, sumI ls, aoC, bC, cpC, some ⟨bM, 0, none⟩, bM, vs.length, by rw [hkl], D310, (D311.sl (fun _ => rfl)), by rw [hm0]; exact hB.less g70 hfe.1 g76 hpe hsr.1 hok2 hpl2 hkl2, (fun hp => .inr (by omega)), (fun hp => .inr (by omega))⟩, E309⟩
      ·
       refine c_skip (hK67 _ _ (c_seq fun K312 hK312 => (c_region (t_loadN (vs := [.slice aoO (List.length ord) cO, .slice aoH (List.length hs) cH, .int .i64 tot]) Try.isAgg103 Try.sizeOf103 rfl rfl rfl (B69.at.sub 0 3) rfl ?_))))
       have B313 := ((((B9.keep u18 (fun h => h)).keep u24 (show ¬ (bk7 = bk15) by first | omega | assumption)).keep u51 (fun h => h)).keep u59 (fun h => h))
       refine t_store (vs := [.slice aoO (List.length ord) cO, .slice aoH (List.length hs) cH, .int .i64 tot]) Try.sizeOf103 rfl rfl rfl B313 rfl rfl (Nat.le_of_ble_eq_true rfl) (by simp [Value.oneCell']) (fun w314 sw314 B316 u315 => ?_)
       have zu315 := u315.size
       have E317 := E61.next u315 (fun i hi (h : i = bk7) => show False by first | omega | assumption)
       have B316 : Blk w314 bk7 103 [.slice aoO (List.length ord) cO, .slice aoH (List.length hs) cH, .int .i64 tot] := B316
       refine t_nil' (hK312 _ _ (c_ret (f_ret1 (v := .agg #[.slice aoO (List.length ord) cO, .slice aoH (List.length hs) cH, .int .i64 tot]) Try.results87 ⟨_, _, rfl, run_loadVarN (vs := [.slice aoO (List.length ord) cO, .slice aoH (List.length hs) cH, .int .i64 tot]) Try.isAgg103 Try.sizeOf103 rfl (B316.at.sub 0 3)⟩ ?_)))
       exact ⟨⟨ord, hs, tot, aoO, bO, cO, aoH, bH, cH, rfl, (hO.keep E317 (fun _ h => h)), (hH.keep E317 (fun _ h => h)), by rw [hm0]; exact hB.more g70 hfe.1 g76, (fun hp => .inl ⟨rfl, hp⟩), (fun hp => .inl ⟨rfl, hp⟩)⟩, E317⟩
    ·
     have hfn := holdsR_bad hHR g66
     refine t_skip rfl rfl rfl (t_skip rfl rfl rfl (t_skip rfl rfl rfl (t_skip rfl rfl rfl (t_skip rfl rfl rfl (t_skip rfl rfl rfl (t_skip rfl rfl rfl (t_skip rfl rfl rfl (t_skip rfl rfl rfl (t_pick_f rfl rfl rfl rfl (t_nil' (hK68 _ _ (c_cond_f rfl (c_skip (hK67 _ _ (c_seq fun K318 hK318 => (c_region ?_))))))))))))))))
     have B319 := (((((B4.keep u10 (fun h => h)).keep u18 (fun h => h)).keep u24 (show ¬ (bk2 = bk15) by first | omega | assumption)).keep u51 (fun h => h)).keep u59 (fun h => h))
     refine t_loadN (vs := [.slice aoO (List.length ord) cO, .slice aoH (List.length hs) cH, .int .i64 tot]) Try.isAgg103 Try.sizeOf103 rfl rfl rfl (B319.at.sub 0 3) rfl ?_
     have B320 := ((((B9.keep u18 (fun h => h)).keep u24 (show ¬ (bk7 = bk15) by first | omega | assumption)).keep u51 (fun h => h)).keep u59 (fun h => h))
     refine t_store (vs := [.slice aoO (List.length ord) cO, .slice aoH (List.length hs) cH, .int .i64 tot]) Try.sizeOf103 rfl rfl rfl B320 rfl rfl (Nat.le_of_ble_eq_true rfl) (by simp [Value.oneCell']) (fun w321 sw321 B323 u322 => ?_)
     have zu322 := u322.size
     have E324 := E61.next u322 (fun i hi (h : i = bk7) => show False by first | omega | assumption)
     have B323 : Blk w321 bk7 103 [.slice aoO (List.length ord) cO, .slice aoH (List.length hs) cH, .int .i64 tot] := B323
     refine t_nil' (hK318 _ _ (c_ret (f_ret1 (v := .agg #[.slice aoO (List.length ord) cO, .slice aoH (List.length hs) cH, .int .i64 tot]) Try.results87 ⟨_, _, rfl, run_loadVarN (vs := [.slice aoO (List.length ord) cO, .slice aoH (List.length hs) cH, .int .i64 tot]) Try.isAgg103 Try.sizeOf103 rfl (B323.at.sub 0 3)⟩ ?_)))
     exact ⟨⟨ord, hs, tot, aoO, bO, cO, aoH, bH, cH, rfl, (hO.keep E324 (fun _ h => h)), (hH.keep E324 (fun _ h => h)), by rw [hm0]; exact hB.none hfn, (fun hp => .inl ⟨rfl, hp⟩), (fun hp => .inl ⟨rfl, hp⟩)⟩, E324⟩
 ·
  refine c_skip (hK12 _ _ (c_seq fun K325 hK325 => (c_seq fun K326 hK326 => (c_region (t_assign rfl rfl rfl (t_nil' (hK326 _ _ (c_block ?_))))))))
  have B327 := (B4.keep u10 (fun h => h))
  refine c_loop (γ := Nat × List Int × List Int × Int × Option Addr × Nat × Nat × Option Addr × Nat × Nat) (fun gg => [(0, .slice av vs.length cv), (1, .slice an ns.length cn), (2, .int .i64 most), (3, .slice ap pk.length cp), (9, .pointer (some ⟨bk2, 0, none⟩)), (10, .pointer (some ⟨bk7, 0, none⟩)), (19, .int .i64 (gg.1 : Int))]) (fun gg w => Upd (fun i => i = bk2) w8 w ∧ Blk w bk2 103 [.slice gg.2.2.2.2.1 (List.length gg.2.1) gg.2.2.2.2.2.2.1, .slice gg.2.2.2.2.2.2.2.1 (List.length gg.2.2.1) gg.2.2.2.2.2.2.2.2.2, .int .i64 gg.2.2.2.1] ∧ (gg.1 ≤ vs.length) ∧ (Sl encI 1 w gg.2.2.2.2.1 gg.2.2.2.2.2.1 0 gg.2.1) ∧ (Sl encI 1 w gg.2.2.2.2.2.2.2.1 gg.2.2.2.2.2.2.2.2.1 0 gg.2.2.1) ∧ (BestB (vs.map HVoy.v) ns most (Lx ++ permsK vs.length (m - 1) gg.1 pk) gg.2.1 gg.2.2.1 gg.2.2.2.1) ∧ (0 < gg.2.1.length → (gg.2.2.2.2.2.1 = bO ∧ 0 < ord.length) ∨ (w0.heap.size ≤ gg.2.2.2.2.2.1 ∧ gg.2.2.2.2.2.1 ≠ bk2 ∧ gg.2.2.2.2.2.1 ≠ bk7)) ∧ (0 < gg.2.2.1.length → (gg.2.2.2.2.2.2.2.2.1 = bH ∧ 0 < hs.length) ∨ (w0.heap.size ≤ gg.2.2.2.2.2.2.2.2.1 ∧ gg.2.2.2.2.2.2.2.2.1 ≠ bk2 ∧ gg.2.2.2.2.2.2.2.2.1 ≠ bk7))) (fun gg => vs.length - gg.1) (0, ord, hs, tot, aoO, bO, cO, aoH, bH, cH) ⟨rfl, rfl, rfl, rfl, rfl, rfl, rfl, trivial⟩ ⟨Upd.refl _ _, B327, (Nat.zero_le _), (hO.keep E11 (fun _ h => h)), (hH.keep E11 (fun _ h => h)), (by simpa [permsK] using hB), (fun hp => .inl ⟨rfl, hp⟩), (fun hp => .inl ⟨rfl, hp⟩)⟩ ?_
  intro gg w329 hW K328 hK328
  obtain ⟨k, ord2, hs2, tot2, aoO2, bO2, cO2, aoH2, bH2, cH2⟩ := gg
  change WC _ _ _ _ _ _ [(0, .slice av vs.length cv), (1, .slice an ns.length cn), (2, .int .i64 most), (3, .slice ap pk.length cp), (9, .pointer (some ⟨bk2, 0, none⟩)), (10, .pointer (some ⟨bk7, 0, none⟩)), (19, .int .i64 (k : Int))] _
  change Upd (fun i => i = bk2) w8 w329 ∧ Blk w329 bk2 103 [.slice aoO2 (List.length ord2) cO2, .slice aoH2 (List.length hs2) cH2, .int .i64 tot2] ∧ (k ≤ vs.length) ∧ (Sl encI 1 w329 aoO2 bO2 0 ord2) ∧ (Sl encI 1 w329 aoH2 bH2 0 hs2) ∧ (BestB (vs.map HVoy.v) ns most (Lx ++ permsK vs.length (m - 1) k pk) ord2 hs2 tot2) ∧ (0 < ord2.length → (bO2 = bO ∧ 0 < ord.length) ∨ (w0.heap.size ≤ bO2 ∧ bO2 ≠ bk2 ∧ bO2 ≠ bk7)) ∧ (0 < hs2.length → (bH2 = bH ∧ 0 < hs.length) ∨ (w0.heap.size ≤ bH2 ∧ bH2 ≠ bk2 ∧ bH2 ≠ bk7)) at hW
  obtain ⟨u330, I331, I332, I333, I334, I335, I336, I337⟩ := hW
  have zu330 := u330.size
  have E338 := E11.next u330 (fun i hi (h : i = bk2) => show False by first | omega | assumption)
  have hkv := I332; clear I332
  have hO2 := I333; clear I333
  have hH2 := I334; clear I334
  have hB2 := I335; clear I335
  have hfO2 := I336; clear I336
  have hfH2 := I337; clear I337
  have hneO2 : 0 < ord2.length → bO2 ≠ bk2 ∧ bO2 ≠ bk7 := fun hp => by
    rcases hfO2 hp with ⟨e, hq⟩ | h
    · have h2 := hO.lt hq; omega
    · omega
  have hneH2 : 0 < hs2.length → bH2 ≠ bk2 ∧ bH2 ≠ bk7 := fun hp => by
    rcases hfH2 hp with ⟨e, hq⟩ | h
    · have h2 := hH.lt hq; omega
    · omega
  refine c_seq fun K339 hK339 => (c_seq fun K340 hK340 => (c_region (t_move rfl rfl rfl (t_move rfl rfl rfl (t_len Try.underlying34 rfl rfl rfl rfl (t_cmp rfl rfl rfl rfl rfl (t_nil' (hK340 _ _ (c_condp rfl (fun g106 => ?_) (fun g106 => ?_))))))))))
  ·
   refine c_skip (hK339 _ _ (c_seq fun K341 hK341 => (c_block (c_seq fun K342 hK342 => (c_region (t_assign rfl rfl rfl (t_nil' (hK342 _ _ (c_seq fun K343 hK343 => (c_seq fun K344 hK344 => (c_region (t_assign rfl rfl rfl (t_nil' (hK344 _ _ (c_block (c_loop (γ := Nat × Bool) (fun gg => [(0, .slice av vs.length cv), (1, .slice an ns.length cn), (2, .int .i64 most), (3, .slice ap pk.length cp), (9, .pointer (some ⟨bk2, 0, none⟩)), (10, .pointer (some ⟨bk7, 0, none⟩)), (19, .int .i64 (k : Int)), (20, .bool gg.2), (21, .int .i64 (gg.1 : Int))]) (fun gg w => Upd (fun _ => False) w329 w ∧ (gg.1 ≤ pk.length) ∧ (gg.2 = true → (k : Int) ∈ pk) ∧ (gg.2 = false → ∀ p, p < gg.1 → nth pk p ≠ (k : Int))) (fun gg => pk.length - gg.1) (0, false) ⟨rfl, rfl, rfl, rfl, rfl, rfl, rfl, rfl, rfl, trivial⟩ ⟨Upd.refl _ _, (Nat.zero_le _), (fun h => by cases h), (fun _ p hp => absurd hp (Nat.not_lt_zero _))⟩ ?_))))))))))))))))
   intro gg w346 hW K345 hK345
   obtain ⟨j, f⟩ := gg
   change WC _ _ _ _ _ _ [(0, .slice av vs.length cv), (1, .slice an ns.length cn), (2, .int .i64 most), (3, .slice ap pk.length cp), (9, .pointer (some ⟨bk2, 0, none⟩)), (10, .pointer (some ⟨bk7, 0, none⟩)), (19, .int .i64 (k : Int)), (20, .bool f), (21, .int .i64 (j : Int))] _
   change Upd (fun _ => False) w329 w346 ∧ (j ≤ pk.length) ∧ (f = true → (k : Int) ∈ pk) ∧ (f = false → ∀ p, p < j → nth pk p ≠ (k : Int)) at hW
   obtain ⟨u347, I348, I349, I350⟩ := hW
   have zu347 := u347.size
   have E351 := E338.next u347 (fun _ _ h => h.elim)
   have hj := I348; clear I348
   have hf1 := I349; clear I349
   have hf2 := I350; clear I350
   refine c_seq fun K352 hK352 => (c_seq fun K353 hK353 => (c_region (t_move rfl rfl rfl (t_move rfl rfl rfl (t_len Try.underlying27 rfl rfl rfl rfl (t_cmp rfl rfl rfl rfl rfl (t_nil' (hK353 _ _ (c_condp rfl (fun g112 => ?_) (fun g112 => ?_))))))))))
   ·
    refine c_skip (hK352 _ _ (c_seq fun K354 hK354 => (c_block (c_region (t_move rfl rfl rfl (t_move rfl rfl rfl (t_split 116 rfl (fun g116 => ?_) (fun g116 => ?_))))))))
    ·
     refine t_skip rfl rfl rfl (t_skip rfl rfl rfl (t_skip rfl rfl rfl (t_skip rfl rfl rfl (t_skip rfl rfl rfl (t_skip rfl rfl rfl (t_pick_t rfl rfl rfl rfl (t_assign rfl rfl rfl (t_nil' (hK354 _ _ (c_region (t_move rfl rfl rfl (t_ari rfl rfl rfl rfl rfl (by omega) (t_assign rfl rfl rfl (t_nil' ?_))))))))))))))
     exact hK345 (j + 1, true) _ _ (by show pk.length - (j + 1) < pk.length - j; omega) ⟨rfl, rfl, rfl, rfl, rfl, rfl, rfl, rfl, rfl, trivial⟩ ⟨u347, (by show (j + 1) ≤ pk.length; omega), (fun _ => hf1 g116), (fun h => by cases h)⟩
    ·
     refine t_move rfl rfl rfl (t_move rfl rfl rfl ?_)
     have i355 : j < pk.length := (by omega)
     refine t_index (j := j) Try.underlying27 Try.sizeOf3 rfl rfl rfl rfl ((hpk.keep E351 (fun _ h => h)).addr (by omega)) rfl i355 (t_load Try.isAgg3 rfl rfl rfl (((hpk.keep E351 (fun _ h => h)).at_ j (by omega)) 0 _ rfl) (t_move rfl rfl rfl (t_cmp rfl rfl rfl rfl rfl (t_pick_f rfl rfl rfl rfl (t_assign rfl rfl rfl (t_nil' (hK354 _ _ (c_region (t_move rfl rfl rfl (t_ari rfl rfl rfl rfl rfl (by omega) (t_assign rfl rfl rfl (t_nil' ?_))))))))))))
     exact hK345 (j + 1, (decide ((nth pk j) = (k : Int)))) _ _ (by show pk.length - (j + 1) < pk.length - j; omega) ⟨rfl, rfl, rfl, rfl, rfl, rfl, rfl, rfl, rfl, trivial⟩ ⟨u347, (by show (j + 1) ≤ pk.length; omega), (fun h => (show nth pk j = (k : Int) by simpa using h) ▸ nth_mem (by omega)), (fun h p hp => by
       rcases Nat.lt_or_ge p j with q | q
       · exact hf2 (by simpa using g116) p q
       · rw [show p = j from by have h5 : p < j + 1 := hp; omega]; simpa using h)⟩
   ·
    refine c_exit (hK343 _ _ (c_seq fun K356 hK356 => (c_region (t_move rfl rfl rfl (t_not rfl rfl rfl (t_nil' (hK356 _ _ (c_cond rfl (fun g125 => ?_) (fun g125 => ?_)))))))))
    ·
     have hnm : ¬ (k : Int) ∈ pk := mem_upto (j := j) (by omega) (hf2 (by simpa using g125))
     have B357 := (I331.keep u347 (fun h => h))
     refine WC.weak [(0, .slice av vs.length cv), (1, .slice an ns.length cn), (2, .int .i64 most), (3, .slice ap pk.length cp), (9, .pointer (some ⟨bk2, 0, none⟩)), (10, .pointer (some ⟨bk7, 0, none⟩)), (19, .int .i64 (k : Int))] ⟨rfl, rfl, rfl, rfl, rfl, rfl, rfl, trivial⟩ (c_drawnS follows 12 10 [some (126, some (.slice av vs.length cv)), some (127, some (.slice an ns.length cn)), some (128, some (.int .i64 most)), some (129, none), some (130, some (.slice ap pk.length cp)), some (131, none), some (132, some (.int .i64 (k : Int))), some (133, none), some (134, none), some (135, some (.agg #[.slice aoO2 (List.length ord2) cO2, .slice aoH2 (List.length hs2) cH2, .int .i64 tot2]))] [[],[],[],[],[],[3,4],[],[6],[5,7,5],[],[0,1,2,8,9,8],[10,10,0,1,2,3,4,5,6,7,8,9,10]] (fun D ρ w => Upd (fun _ => False) w346 w ∧ (D 3 = true → ∃ bkB, ρ 3 = .slice (some ⟨bkB, 0, none⟩) 0 0 ∧ (D 5 = false → (Blk w bkB 3 [] ∧ w346.heap.size ≤ bkB))) ∧ (D 5 = true → ∃ aoD bD cpD bsD, ρ 5 = .slice aoD pk.length cpD ∧ (D 8 = false → (Acc encI 1 3 bsD w aoD bD cpD pk ∧ w346.heap.size ≤ bsD ∧ bsD ≤ bD))) ∧ (D 7 = true → ∃ bkE, ρ 7 = .slice (some ⟨bkE, 0, none⟩) 1 1 ∧ (D 8 = false → (Blk w bkE 3 [.int .i64 (k : Int)] ∧ w346.heap.size ≤ bkE))) ∧ (D 8 = true → ∃ aoQ bQ cpQ, ρ 8 = .slice aoQ ((pk ++ [(k : Int)]).length) cpQ ∧ (Sl encI 1 w aoQ bQ 0 (pk ++ [(k : Int)])))) rfl rfl rfl rfl (by kernel_rfl) (by kernel_rfl) (by kernel_rfl) ⟨(Upd.drew _).to, (fun h => by cases h), (fun h => by cases h), (fun h => by cases h), (fun h => by cases h)⟩ ⟨?_, ?_, ?_, ?_, ?_, ?_, ?_, ?_, ?_, ?_, trivial⟩ ?_)
     · exact pz rfl rfl rfl rfl fun _ _ _ h => h
     · exact pz rfl rfl rfl rfl fun _ _ _ h => h
     · exact pz rfl rfl rfl rfl fun _ _ _ h => h
     ·
      intro D ρ w358 hcD hnD hdD hW
      obtain ⟨u359, F360, F361, F362, F363⟩ := hW
      have zu359 := u359.size
      refine ⟨[], trivial, fun Lr => ?_⟩
      refine t_bslice (ps := []) (cs := []) (e := 3) rfl rfl ⟨rfl, rfl⟩ (fun w => by kernel_rfl) (fun bk365 w366 ebk365 sbk365 B367 u368 => ?_)
      have zu368 := u368.size
      exact dzn rfl ⟨(u359.next u368 (fun _ _ h => h.elim)), (fun _ => ⟨bk365, rfl, fun _ => ⟨B367, by omega⟩⟩), (fun h => absurd ((hcD.late 5 hnD rfl).symm.trans h) (by decide)), (fun h => by obtain ⟨bkE, e, hB⟩ := F362 h; exact ⟨bkE, e, fun h2 => ⟨((hB h2).1.keep u368 (fun h => h)), (hB h2).2⟩⟩), (fun h => absurd ((hcD.late 8 (hcD.late 5 hnD rfl) rfl).symm.trans h) (by decide))⟩
     · exact pz rfl rfl rfl rfl fun _ _ _ h => h
     ·
      intro D ρ w370 hcD hnD hdD hW
      obtain ⟨u371, F372, F373, F374, F375⟩ := hW
      have zu371 := u371.size
      have E376 := E351.next u371 (fun _ _ h => h.elim)
      obtain ⟨bkB, e377, H378⟩ := F372 (hdD 3 rfl)
      have H379 := H378 hnD
      have lt_bkB := H379.1.lt
      refine ⟨[(129, .slice (some ⟨bkB, 0, none⟩) 0 0), (130, .slice ap pk.length cp)], ⟨fi 3 rfl rfl e377.symm, fi 4 rfl rfl rfl, trivial⟩, fun Lr => ?_⟩
      refine t_copyE (z := .int .i64 0) (bytes := 8) (k := 1) (enc := encI) (ys := pk) Try.underlying27 (by kernel_rfl) rfl (by decide) (fun _ => rfl) (by intro x; simp [encI, Value.oneCell']) rfl rfl rfl rfl H379.1 (hpk.keep E376 (fun _ h => h)) (by omega) (by decide) (fun ao383 gb384 cp385 w380 A382 u381 gegb384 => ?_)
      have zu381 := u381.size
      exact dzn rfl ⟨(u371.next u381 (fun _ _ h => h.elim)), (fun h => by obtain ⟨bkB, e, _⟩ := F372 h; exact ⟨bkB, e, fun h => by cases h⟩), (fun _ => ⟨ao383, gb384, cp385, bkB, rfl, fun _ => ⟨A382, by omega, by omega⟩⟩), (fun h => by obtain ⟨bkE, e, hB⟩ := F374 h; exact ⟨bkE, e, fun h2 => ⟨((hB h2).1.keep u381 (fun h => h)), (hB h2).2⟩⟩), (fun h => absurd ((hcD.late 8 hnD rfl).symm.trans h) (by decide))⟩
     · exact pz rfl rfl rfl rfl fun _ _ _ h => h
     ·
      intro D ρ w387 hcD hnD hdD hW
      obtain ⟨u388, F389, F390, F391, F392⟩ := hW
      have zu388 := u388.size
      refine ⟨_, kf_fr [132], fun Lr => ?_⟩
      refine t_bslice (ps := [(0, .int .i64 (k : Int))]) (cs := [.int .i64 (k : Int)]) (e := 3) rfl rfl ⟨rfl, rfl⟩ (fun w => by kernel_rfl) (fun bk394 w395 ebk394 sbk394 B396 u397 => ?_)
      have zu397 := u397.size
      exact dzn rfl ⟨(u388.next u397 (fun _ _ h => h.elim)), (fun h => by obtain ⟨bkB, e, hB⟩ := F389 h; exact ⟨bkB, e, fun h2 => ⟨((hB h2).1.keep u397 (fun h => h)), (hB h2).2⟩⟩), (fun h => by obtain ⟨aoD, bD, cpD, bsD, e, hB⟩ := F390 h; exact ⟨aoD, bD, cpD, bsD, e, fun h2 => ⟨((hB h2).1.keep u397 (fun _ h => h)), (hB h2).2⟩⟩), (fun _ => ⟨bk394, rfl, fun _ => ⟨B396, by omega⟩⟩), (fun h => absurd ((hcD.late 8 hnD rfl).symm.trans h) (by decide))⟩
     ·
      intro D ρ w399 hcD hnD hdD hW
      obtain ⟨u400, F401, F402, F403, F404⟩ := hW
      have zu400 := u400.size
      obtain ⟨aoD, bD, cpD, bsD, e406, H407⟩ := F402 (hdD 5 rfl)
      have H408 := H407 hnD
      have lt_bD := H408.1.lt
      have ge_bD := H408.2
      obtain ⟨bkE, e409, H410⟩ := F403 (hdD 7 rfl)
      have H411 := H410 hnD
      have lt_bkE := H411.1.lt
      refine ⟨[(131, .slice aoD pk.length cpD), (133, .slice (some ⟨bkE, 0, none⟩) 1 1)], ⟨fi 5 rfl rfl e406.symm, fi 7 rfl rfl e409.symm, trivial⟩, fun Lr => ?_⟩
      refine t_append (z := .int .i64 0) (bytes := 8) (k := 1) (base := bsD) (k : Int) Try.underlying27 (by kernel_rfl) rfl (by decide) (fun _ => rfl) (by intro x; simp [encI, Value.oneCell']) rfl rfl rfl rfl H408.1 H411.1 (by omega) (by omega) (by decide) (fun ao412 gb413 cp414 w415 A416 u417 gegb413 lngb413 => ?_)
      have zu417 := u417.size
      have lt_gb413 := A416.lt
      exact dzn rfl ⟨(u400.next u417 (fun i hi (h : (i = bD ∧ bsD ≤ i)) => show False by first | omega | assumption)), (fun h => by obtain ⟨bkB, e, _⟩ := F401 h; exact ⟨bkB, e, fun h2 => absurd ((hdD 5 rfl).symm.trans h2) (by decide)⟩), (fun h => by obtain ⟨aoD, bD, cpD, bsD, e, _⟩ := F402 h; exact ⟨aoD, bD, cpD, bsD, e, fun h => by cases h⟩), (fun h => by obtain ⟨bkE, e, _⟩ := F403 h; exact ⟨bkE, e, fun h => by cases h⟩), (fun _ => ⟨ao412, gb413, cp414, rfl, (A416.sl (fun _ => rfl))⟩)⟩
     · exact fun D ρ w419 hcD hnD hdD hW => ⟨_, kf_fr [9], fun Lr => t_loadN (vs := [.slice aoO2 (List.length ord2) cO2, .slice aoH2 (List.length hs2) cH2, .int .i64 tot2]) Try.isAgg103 Try.sizeOf103 rfl rfl rfl ((B357.keep hW.1 (fun h => h)).at.sub 0 3) rfl (dz rfl hW)⟩
     intro ρ w427 hW
     obtain ⟨u428, F429, F430, F431, F432⟩ := hW
     have zu428 := u428.size
     have E433 := E351.next u428 (fun _ _ h => h.elim)
     obtain ⟨aoQ, bQ, cpQ, e437, H438⟩ := F432 rfl
     refine t_weak [(0, .slice av vs.length cv), (1, .slice an ns.length cn), (2, .int .i64 most), (3, .slice ap pk.length cp), (9, .pointer (some ⟨bk2, 0, none⟩)), (10, .pointer (some ⟨bk7, 0, none⟩)), (19, .int .i64 (k : Int)), (126, .slice av vs.length cv), (127, .slice an ns.length cn), (128, .int .i64 most), (134, .slice aoQ ((pk ++ [(k : Int)]).length) cpQ), (135, .agg #[.slice aoO2 (List.length ord2) cO2, .slice aoH2 (List.length hs2) cH2, .int .i64 tot2])] ⟨rfl, rfl, rfl, rfl, rfl, rfl, rfl, rfl, rfl, rfl, (look_nd (j := 8) rfl rfl rfl e437), rfl, trivial⟩ ?_
     have D439 := ((hO2.keep u347 (fun _ h => h)).keep u428 (fun _ h => h))
     have D440 := ((hH2.keep u347 (fun _ h => h)).keep u428 (fun _ h => h))
     refine t_call (vs := [.slice av vs.length cv, .slice an ns.length cn, .int .i64 most, .slice aoQ ((pk ++ [(k : Int)]).length) cpQ, .agg #[.slice aoO2 (List.length ord2) cO2, .slice aoH2 (List.length hs2) cH2, .int .i64 tot2]]) own87 rfl rfl rfl rfl (ih (m - 1) (by omega) (pk ++ [(k : Int)]) aoQ bQ cpQ _ ord2 hs2 tot2 aoO2 bO2 cO2 aoH2 bH2 cH2 _ (hsV.keep E433 (fun _ h => h)) (fun x hx => (hruns x hx).keep E433 (fun _ h => h)) (hn.keep E433 (fun _ h => h)) H438 (hok.snoc (by omega) hnm) (by simp; omega) D439 D440 hB2) (fun v441 w442 r444 => ?_)
     obtain ⟨⟨ord3, hs3, tot3, aoO3, bO3, cO3, aoH3, bH3, cH3, rfl, hO3, hH3, hB3, hfO3, hfH3⟩, u443⟩ := r444
     have zu443 := u443.size
     have hfO4 : 0 < ord3.length → (bO3 = bO ∧ 0 < ord.length) ∨ (w0.heap.size ≤ bO3 ∧ bO3 ≠ bk2 ∧ bO3 ≠ bk7) := fun hp => by
       rcases hfO3 hp with ⟨e, hq⟩ | h
       · rw [e]; exact hfO2 hq
       · exact .inr (by omega)
     have hneO3 : 0 < ord3.length → bO3 ≠ bk2 ∧ bO3 ≠ bk7 := fun hp => by
       rcases hfO4 hp with ⟨e, hq⟩ | h
       · have h2 := hO.lt hq; omega
       · omega
     have hfH4 : 0 < hs3.length → (bH3 = bH ∧ 0 < hs.length) ∨ (w0.heap.size ≤ bH3 ∧ bH3 ≠ bk2 ∧ bH3 ≠ bk7) := fun hp => by
       rcases hfH3 hp with ⟨e, hq⟩ | h
       · rw [e]; exact hfH2 hq
       · exact .inr (by omega)
     have hneH3 : 0 < hs3.length → bH3 ≠ bk2 ∧ bH3 ≠ bk7 := fun hp => by
       rcases hfH4 hp with ⟨e, hq⟩ | h
       · have h2 := hH.lt hq; omega
       · omega
     have B446 := ((B357.keep u428 (fun h => h)).keep u443 (fun h => h))
     refine t_store (vs := [.slice aoO3 (List.length ord3) cO3, .slice aoH3 (List.length hs3) cH3, .int .i64 tot3]) Try.sizeOf103 rfl rfl rfl B446 rfl rfl (Nat.le_of_ble_eq_true rfl) (by simp [Value.oneCell']) (fun w447 sw447 B449 u448 => ?_)
     have zu448 := u448.size
     have B449 : Blk w447 bk2 103 [.slice aoO3 (List.length ord3) cO3, .slice aoH3 (List.length hs3) cH3, .int .i64 tot3] := B449
     refine t_nil' (hK341 _ _ (c_region (t_move rfl rfl rfl (t_ari rfl rfl rfl rfl rfl (by omega) (t_assign rfl rfl rfl (t_nil' ?_))))))
     have D451 := (hO3.keep u448 (fun hp => by have hlt := hO3.lt hp; have hfr := hneO3 hp; show ¬ (bO3 = bk2); omega))
     have D452 := (hH3.keep u448 (fun hp => by have hlt := hH3.lt hp; have hfr := hneH3 hp; show ¬ (bH3 = bk2); omega))
     exact hK328 (k + 1, ord3, hs3, tot3, aoO3, bO3, cO3, aoH3, bH3, cH3) _ _ (by show vs.length - (k + 1) < vs.length - k; omega) ⟨rfl, rfl, rfl, rfl, rfl, rfl, rfl, trivial⟩ ⟨((((u330.next u347 (fun _ _ h => h.elim)).next u428 (fun _ _ h => h.elim)).next u443 (fun _ _ h => h.elim)).next u448 (fun i hi (h : i = bk2) => show i = bk2 by first | omega | assumption)), B449, (by show (k + 1) ≤ vs.length; omega), D451, D452, (by rw [permsK_succ, if_neg hnm, ← List.append_assoc]; exact hB3), hfO4, hfH4⟩
    ·
     have hym : (k : Int) ∈ pk := hf1 (by simpa using g125)
     refine c_skip (hK341 _ _ (c_region (t_move rfl rfl rfl (t_ari rfl rfl rfl rfl rfl (by omega) (t_assign rfl rfl rfl (t_nil' ?_))))))
     have B453 := (I331.keep u347 (fun h => h))
     have D454 := (hO2.keep u347 (fun _ h => h))
     have D455 := (hH2.keep u347 (fun _ h => h))
     exact hK328 (k + 1, ord2, hs2, tot2, aoO2, bO2, cO2, aoH2, bH2, cH2) _ _ (by show vs.length - (k + 1) < vs.length - k; omega) ⟨rfl, rfl, rfl, rfl, rfl, rfl, rfl, trivial⟩ ⟨(u330.next u347 (fun _ _ h => h.elim)), B453, (by show (k + 1) ≤ vs.length; omega), D454, D455, (by rw [permsK_succ, if_pos hym, List.append_nil]; exact hB2), hfO2, hfH2⟩
  ·
   refine c_exit (hK325 _ _ (c_seq fun K456 hK456 => (c_region (t_loadN (vs := [.slice aoO2 (List.length ord2) cO2, .slice aoH2 (List.length hs2) cH2, .int .i64 tot2]) Try.isAgg103 Try.sizeOf103 rfl rfl rfl (I331.at.sub 0 3) rfl ?_))))
   have B457 := (B9.keep u330 (show ¬ (bk7 = bk2) by first | omega | assumption))
   refine t_store (vs := [.slice aoO2 (List.length ord2) cO2, .slice aoH2 (List.length hs2) cH2, .int .i64 tot2]) Try.sizeOf103 rfl rfl rfl B457 rfl rfl (Nat.le_of_ble_eq_true rfl) (by simp [Value.oneCell']) (fun w458 sw458 B460 u459 => ?_)
   have zu459 := u459.size
   have E461 := E338.next u459 (fun i hi (h : i = bk7) => show False by first | omega | assumption)
   have B460 : Blk w458 bk7 103 [.slice aoO2 (List.length ord2) cO2, .slice aoH2 (List.length hs2) cH2, .int .i64 tot2] := B460
   refine t_nil' (hK456 _ _ (c_ret (f_ret1 (v := .agg #[.slice aoO2 (List.length ord2) cO2, .slice aoH2 (List.length hs2) cH2, .int .i64 tot2]) Try.results87 ⟨_, _, rfl, run_loadVarN (vs := [.slice aoO2 (List.length ord2) cO2, .slice aoH2 (List.length hs2) cH2, .int .i64 tot2]) Try.isAgg103 Try.sizeOf103 rfl (B460.at.sub 0 3)⟩ ?_)))
   have D462 := (hO2.keep u459 (fun hp => by have hlt := hO2.lt hp; have hfr := hneO2 hp; show ¬ (bO2 = bk7); omega))
   have D463 := (hH2.keep u459 (fun hp => by have hlt := hH2.lt hp; have hfr := hneH2 hp; show ¬ (bH2 = bk7); omega))
   exact ⟨⟨ord2, hs2, tot2, aoO2, bO2, cO2, aoH2, bH2, cH2, rfl, D462, D463, by rw [show permsF vs.length m pk = permsK vs.length (m - 1) k pk from by rw [show m = (m - 1) + 1 from by omega, show k = vs.length from by omega]; rfl]; exact hB2, (fun hp => by have h := hfO2 hp; omega), (fun hp => by have h := hfH2 hp; omega)⟩, E461⟩

end Go.Proofs.Ytmicjleiheoieaa
