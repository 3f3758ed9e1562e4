/-
  The law TowOrders returns true. Conditions: none.
-/
import Derived.Test.YtmicjleiheoieaaOA13
import Derived.Test.YtmicjleiheoieaaOA25
import Derived.Test.YtmicjleiheoieaaOA46
namespace Go.Proofs.Ytmicjleiheoieaa
open Go Go.RowKit
theorem OrderU_c (us : List HVoy) (ao : Option Addr) (b cap : Nat) (ns : List Nar) (an : Option Addr) (bn on cn : Nat) (most : Int) (vl : List Voy) (w0 : World) (hm : us.map HVoy.v = vl) (hs : Sl encHVoy 5 w0 ao b 0 us) (hruns : ∀ x ∈ us, Sl encRun 6 w0 x.ao x.b x.o x.v.runs) (hn : Sl encNar 4 w0 an bn on ns) (hl : vl.length ≤ 1000000) (hrl : ∀ v ∈ vl, v.runs.length ≤ 1000000) (hnl : ns.length ≤ 1000000) :
    CallsV Try.prog 52 [.slice ao us.length cap, .slice an ns.length cn, .int .i64 most] w0 (fun v w' => (∃ ord ls tot e aoO bO cO aoH bH cH, v = .tuple #[.slice aoO (List.length ord) cO, .slice aoH (List.length ls) cH, .int .i64 tot, .int .i64 e] ∧ Sl encI 1 w' aoO bO 0 ord ∧ Sl encI 1 w' aoH bH 0 ls ∧ OrderA vl ns most ord ls tot e) ∧ Ext w0 w') := by
  subst hm
  exact Order_c us ns ao an b 0 bn on cap cn most w0 hs hruns (fun x hx => hrl x.v (List.mem_map.2 ⟨x, hx, rfl⟩)) hn (by rw [List.length_map] at hl; exact hl) hnl
theorem open_len {vl : List Voy} {ns : List Nar} (h : OpenE vl ns = 0) : vl.length ≤ 12 ∧ ns.length ≤ 20 := by
  unfold OpenE at h
  split at h
  · cases h
  · omega
def wantO (vl : List Voy) (ns : List Nar) (most : Int) : Int := if 6 < vl.length then 5 else if OpenE vl ns = 0 then (if 0 ≤ most ∧ most ≤ 5000 then 0 else 3) else OpenE vl ns
theorem order_bad {vl : List Voy} {ns : List Nar} {most tot e : Int} {ord ls : List Int} (h : OrderA vl ns most ord ls tot e) (hw : wantO vl ns most ≠ 0) : e = wantO vl ns most ∧ ord.length = 0 ∧ ls.length = 0 ∧ tot = 0 := by
  unfold wantO at hw ⊢
  rcases h with ⟨h1, rfl, rfl, h2, h3⟩ | ⟨h1, h0, rfl, rfl, h2, h3⟩ | ⟨h1, h0, hm, rfl, rfl, h2, h3⟩ | ⟨h1, h0, hm, _⟩
  · rw [if_pos h1]; exact ⟨h3, rfl, rfl, h2⟩
  · rw [if_neg (by omega), if_neg h0]; exact ⟨h3, rfl, rfl, h2⟩
  · rw [if_neg (by omega), if_pos h0, if_neg hm]; exact ⟨h3, rfl, rfl, h2⟩
  · rw [if_neg (by omega), if_pos h0, if_pos hm] at hw; exact absurd rfl hw
theorem order_ok {vl : List Voy} {ns : List Nar} {most tot e : Int} {ord ls : List Int} (h : OrderA vl ns most ord ls tot e) (h6 : vl.length ≤ 6) (h0 : OpenE vl ns = 0) (hm : 0 ≤ most ∧ most ≤ 5000) : ∃ fd, BestM vl ns most (permsF vl.length vl.length []) fd ord ls tot ∧ e = if fd then 0 else 7 := by
  rcases h with ⟨h1, _⟩ | ⟨_, h1, _⟩ | ⟨_, _, h1, _⟩ | ⟨_, _, _, h⟩
  · omega
  · exact absurd h0 h1
  · exact absurd hm h1
  · exact h
theorem best_cmp {vl : List Voy} {ns : List Nar} {most tot e totB : Int} {L : List (List Int)} {ord ls ordB lsB : List Int} {fd : Bool} (h : BestM vl ns most L fd ord ls tot) (he : e = if fd then 0 else 7) (hb : BestB vl ns most L ordB lsB totB) :
    (totB = -1 ∧ ordB = [] ∧ lsB = [] ∧ e = 7 ∧ ord = [] ∧ ls = [] ∧ tot = 0) ∨ (0 ≤ tot ∧ e = 0 ∧ ordB = ord ∧ lsB = ls ∧ totB = tot ∧ ord.length = vl.length ∧ ls.length = vl.length) := by
  rcases h with ⟨rfl, h1, h2, h3, h4⟩ | ⟨rfl, h1, h2, h3, h4, h5⟩
  · rcases hb with ⟨k1, k2, k3, k4⟩ | ⟨_, k, _⟩
    · exact .inl ⟨k1, k3, k4, by simpa using he, h2, h3, h4⟩
    · rw [h1] at k; cases k
  · rcases hb with ⟨_, k, _⟩ | ⟨k0, k1, k2, k3, k4, k5⟩
    · rw [h1] at k; cases k
    · rw [h1] at k1
      injection k1 with k1
      injection k1 with e1 e2
      subst e1
      have e3 := permH_inj h2 h3 h4 k4 e2
      subst e3
      exact .inr ⟨by omega, by simpa using he, rfl, rfl, by omega, h3, h4⟩
theorem rOrder_c (vs : List HVoy) (av : Option Addr) (bv ov cv : Nat) (ns : List Nar) (an : Option Addr) (bn on cn : Nat) (most : Int) (hv6 : vs.length ≤ 6) (hnl : ns.length ≤ 20) (hokv : ∀ x ∈ vs, okVoy x.v = true) (hokn : ∀ n ∈ ns, okNar n = true) (hthr : ∀ x ∈ vs, ∀ n ∈ ns, thrE x.v n = 0) (hmost : 0 ≤ most ∧ most ≤ 5000) : ∀ m, ROrdQ Try.prog vs av bv ov cv ns an bn on cn most m := by
  intro m
  induction m with
  | zero => exact fun pk ap bp cp L ord hs tot aoO bO cO aoH bH cH w0 h1 h2 h3 h4 h5 h6 h7 h8 h9 => rOrder_s vs av bv ov cv ns an bn on cn most 0 pk ap bp cp L ord hs tot aoO bO cO aoH bH cH w0 h1 h2 h3 h4 h5 h6 h7 h8 h9 hv6 hnl hokv hokn hthr hmost (fun q hq => by omega)
  | succ m ih => exact fun pk ap bp cp L ord hs tot aoO bO cO aoH bH cH w0 h1 h2 h3 h4 h5 h6 h7 h8 h9 => rOrder_s vs av bv ov cv ns an bn on cn most (m + 1) pk ap bp cp L ord hs tot aoO bO cO aoH bH cH w0 h1 h2 h3 h4 h5 h6 h7 h8 h9 hv6 hnl hokv hokn hthr hmost (fun q hq => by
      have : q = m := by omega
      subst this; exact ih)

theorem rOrdTop_c (vs : List HVoy) (av : Option Addr) (bv ov cv : Nat) (ns : List Nar) (an : Option Addr) (bn on cn : Nat) (most : Int) (w0 : World) (hs : Sl encHVoy 5 w0 av bv ov vs) (hruns : ∀ x ∈ vs, Sl encRun 6 w0 x.ao x.b x.o x.v.runs) (hn : Sl encNar 4 w0 an bn on ns) (hv6 : vs.length ≤ 6) (hnl : ns.length ≤ 20) (hokv : ∀ x ∈ vs, okVoy x.v = true) (hokn : ∀ n ∈ ns, okNar n = true) (hthr : ∀ x ∈ vs, ∀ n ∈ ns, thrE x.v n = 0) (hmost : 0 ≤ most ∧ most ≤ 5000) :
    CallsV Try.prog 53 [.slice av vs.length cv, .slice an ns.length cn, .int .i64 most] w0 (fun v w' => (∃ ordR hsR totR aoOR bOR cOR aoHR bHR cHR, v = .agg #[.slice aoOR (List.length ordR) cOR, .slice aoHR (List.length hsR) cHR, .int .i64 totR] ∧ Sl encI 1 w' aoOR bOR 0 ordR ∧ Sl encI 1 w' aoHR bHR 0 hsR ∧ BestB (vs.map HVoy.v) ns most (permsF vs.length vs.length []) ordR hsR totR) ∧ Ext w0 w') := by
 have E0 := Upd.refl (fun _ => False) w0
 refine f_enter (N := 12) Try.func53 rfl rfl rfl ?_
 change WC _ _ _ _ _ _ [(0, .slice av vs.length cv), (1, .slice an ns.length cn), (2, .int .i64 most)] _
 refine c_seq fun K1 hK1 => (c_region (t_alloc (cs := [.slice none 0 0, .slice none 0 0, .int .i64 0]) Try.zeroValue103 rfl rfl rfl (fun bk2 w3 ebk2 sbk2 B4 u5 => ?_)))
 have zu5 := u5.size
 have E6 := E0.next u5 (fun _ _ h => h.elim)
 refine t_nil' (hK1 _ _ (c_seq fun K7 hK7 => (c_region (t_move rfl rfl rfl (t_move rfl rfl rfl (t_move rfl rfl rfl (t_build (ps := [(2, .int .i64 (-1))]) (v := .agg #[.slice none 0 0, .slice none 0 0, .int .i64 (-1)]) rfl rfl ⟨rfl, rfl⟩ (fun w => by kernel_rfl) (t_call (vs := [.slice av vs.length cv, .slice an ns.length cn, .int .i64 most, .slice none 0 0, .agg #[.slice none 0 0, .slice none 0 0, .int .i64 (-1)]]) own87 rfl rfl rfl rfl ((rOrder_c vs av bv ov cv ns an bn on cn most hv6 hnl hokv hokn hthr hmost vs.length) [] none 0 0 [] [] [] (-1) none 0 0 none 0 0 _ (hs.keep E6 (fun _ h => h)) (fun x hx => (hruns x hx).keep E6 (fun _ h => h)) (hn.keep E6 (fun _ h => h)) (Sl.nil _ _ _ _ _ _) ⟨fun j hj => (by cases hj), List.nodup_nil⟩ (by simp) (Sl.nil _ _ _ _ _ _) (Sl.nil _ _ _ _ _ _) (.inl ⟨rfl, rfl, rfl, rfl⟩)) (fun v8 w9 r11 => ?_)))))))))
 obtain ⟨⟨ordR, hsR, totR, aoOR, bOR, cOR, aoHR, bHR, cHR, rfl, hSO, hSH, hBB, hfO, hfH⟩, u10⟩ := r11
 have zu10 := u10.size
 have E12 := E6.next u10 (fun _ _ h => h.elim)
 have hcallw := u10
 have B13 := (B4.keep u10 (fun h => h))
 refine t_store (vs := [.slice aoOR (List.length ordR) cOR, .slice aoHR (List.length hsR) cHR, .int .i64 totR]) Try.sizeOf103 rfl rfl rfl B13 rfl rfl (Nat.le_of_ble_eq_true rfl) (by simp [Value.oneCell']) (fun w14 sw14 B16 u15 => ?_)
 have zu15 := u15.size
 have E17 := E12.next u15 (fun i hi (h : i = bk2) => show False by first | omega | assumption)
 have B16 : Blk w14 bk2 103 [.slice aoOR (List.length ordR) cOR, .slice aoHR (List.length hsR) cHR, .int .i64 totR] := B16
 refine t_nil' (hK7 _ _ (c_ret (f_ret1 (v := .agg #[.slice aoOR (List.length ordR) cOR, .slice aoHR (List.length hsR) cHR, .int .i64 totR]) Try.results53 ⟨_, _, rfl, run_loadVarN (vs := [.slice aoOR (List.length ordR) cOR, .slice aoHR (List.length hsR) cHR, .int .i64 totR]) Try.isAgg103 Try.sizeOf103 rfl (B16.at.sub 0 3)⟩ ?_)))
 exact ⟨⟨ordR, hsR, totR, aoOR, bOR, cOR, aoHR, bHR, cHR, rfl, (hSO.keep u15 (fun hp => by have hlt := hSO.lt hp; rcases hfO hp with ⟨_, hq⟩ | hq; (exact absurd hq (by simp)); show ¬ (bOR = bk2); omega)), (hSH.keep u15 (fun hp => by have hlt := hSH.lt hp; rcases hfH hp with ⟨_, hq⟩ | hq; (exact absurd hq (by simp)); show ¬ (bHR = bk2); omega)), hBB⟩, E17⟩

theorem rOrdCmp_c (vs : List HVoy) (av : Option Addr) (bv ov cv : Nat) (ns : List Nar) (an : Option Addr) (bn on cn : Nat) (most : Int) (w0 : World) (hs : Sl encHVoy 5 w0 av bv ov vs) (hruns : ∀ x ∈ vs, Sl encRun 6 w0 x.ao x.b x.o x.v.runs) (hn : Sl encNar 4 w0 an bn on ns) (hv6 : vs.length ≤ 6) (hnl : ns.length ≤ 20) (hokv : ∀ x ∈ vs, okVoy x.v = true) (hokn : ∀ n ∈ ns, okNar n = true) (hthr : ∀ x ∈ vs, ∀ n ∈ ns, thrE x.v n = 0) (hmost : 0 ≤ most ∧ most ≤ 5000) {fd : Bool} {ord ls : List Int} {tot e : Int} (hbm : BestM (vs.map HVoy.v) ns most (permsF vs.length vs.length []) fd ord ls tot) (he : e = if fd then 0 else 7) :
    CallsV Try.prog 53 [.slice av vs.length cv, .slice an ns.length cn, .int .i64 most] w0 (fun v w' => ((∃ aoOR cOR aoHR cHR, v = .agg #[.slice aoOR 0 cOR, .slice aoHR 0 cHR, .int .i64 (-1)] ∧ e = 7 ∧ ord = [] ∧ ls = [] ∧ tot = 0) ∨ (∃ aoOR bOR cOR aoHR bHR cHR, v = .agg #[.slice aoOR (List.length ord) cOR, .slice aoHR (List.length ls) cHR, .int .i64 tot] ∧ Sl encI 1 w' aoOR bOR 0 ord ∧ Sl encI 1 w' aoHR bHR 0 ls ∧ 0 ≤ tot ∧ e = 0 ∧ ord.length = vs.length ∧ ls.length = vs.length)) ∧ Ext w0 w') :=
  (rOrdTop_c vs av bv ov cv ns an bn on cn most w0 hs hruns hn hv6 hnl hokv hokn hthr hmost).mono fun v w' ⟨⟨o2, l2, t2, a1, b1, c1, a2, b2, c2, h1, h2, h3, h4⟩, u⟩ => ⟨by
    rcases best_cmp hbm he h4 with ⟨rfl, rfl, rfl, k1, k2, k3, k4⟩ | ⟨k0, k1, rfl, rfl, rfl, k2, k3⟩
    · exact .inl ⟨a1, c1, a2, c2, h1, k1, k2, k3, k4⟩
    · rw [List.length_map] at k2 k3
      exact .inr ⟨a1, b1, c1, a2, b2, c2, h1, h2, h3, k0, k1, k2, k3⟩, u⟩

set_option maxHeartbeats 1000000 in
theorem TowOrders_c (vs : List HVoy) (av : Option Addr) (bv ov cv : Nat) (ns : List Nar) (an : Option Addr) (bn on cn : Nat) (most : Int) (w0 : World) (hs : Sl encHVoy 5 w0 av bv ov vs) (hruns : ∀ x ∈ vs, Sl encRun 6 w0 x.ao x.b x.o x.v.runs) (hn : Sl encNar 4 w0 an bn on ns) (hvl : vs.length ≤ 9223372036854775807) (hnl : ns.length ≤ 9223372036854775807) :
    CallsV Try.prog 13 [.agg #[.slice av vs.length cv, .slice an ns.length cn], .int .i64 most] w0 (fun v w' => v = .bool true ∧ Ext w0 w') := by
 have E0 := Upd.refl (fun _ => False) w0
 refine f_enter (N := 147) Try.func13 rfl rfl rfl ?_
 change WC _ _ _ _ _ _ [(0, .agg #[.slice av vs.length cv, .slice an ns.length cn]), (1, .int .i64 most)] _
 refine c_seq fun K1 hK1 => (c_region (t_box (cs := [.slice av vs.length cv, .slice an ns.length cn]) rfl rfl rfl rfl (fun bk2 w3 ebk2 sbk2 B4 u5 => ?_)))
 have zu5 := u5.size
 have E6 := E0.next u5 (fun _ _ h => h.elim)
 refine t_assign rfl rfl rfl (t_nil' (hK1 _ _ (c_cut (γ := Unit) (fun _x => [(1, .int .i64 most), (2, .pointer (some ⟨bk2, 0, none⟩))]) (fun _x w => Upd (fun _ => False) w3 w ∧ (lrgB vs ns = false)) (fun K8 hK8 => ?_) ?_)))
 ·
  refine c_seq fun K11 hK11 => (c_region (t_loadN (vs := [.slice av vs.length cv, .slice an ns.length cn]) Try.isAgg37 Try.sizeOf37 rfl rfl rfl (B4.at.sub 0 2) rfl (t_call (vs := [.agg #[.slice av vs.length cv, .slice an ns.length cn]]) own22 rfl rfl rfl rfl (large_c vs av bv ov cv ns an bn on cn _ (hs.keep E6 (fun _ h => h)) (fun x hx => (hruns x hx).keep E6 (fun _ h => h)) (hn.keep E6 (fun _ h => h)) (by omega) (by omega)) (fun v12 w13 r15 => ?_))))
  obtain ⟨rfl, u14⟩ := r15
  have zu14 := u14.size
  have E16 := E6.next u14 (fun _ _ h => h.elim)
  refine t_move rfl rfl rfl (t_split 13 rfl (fun g13 => ?_) (fun g13 => ?_))
  ·
   refine t_skip rfl rfl rfl (t_skip rfl rfl rfl (t_skip rfl rfl rfl (t_skip rfl rfl rfl (t_skip rfl rfl rfl (t_skip rfl rfl rfl (t_skip rfl rfl rfl (t_skip rfl rfl rfl (t_skip rfl rfl rfl (t_skip rfl rfl rfl (t_pick_t rfl rfl rfl rfl (t_move rfl rfl rfl (t_skip rfl rfl rfl (t_skip rfl rfl rfl (t_skip rfl rfl rfl (t_skip rfl rfl rfl (t_skip rfl rfl rfl (t_skip rfl rfl rfl (t_skip rfl rfl rfl (t_skip rfl rfl rfl (t_skip rfl rfl rfl (t_skip rfl rfl rfl (t_pick_t rfl rfl rfl rfl (t_move rfl rfl rfl ?_)))))))))))))))))))))))
   refine t_skip rfl rfl rfl (t_skip rfl rfl rfl (t_skip rfl rfl rfl (t_skip rfl rfl rfl (t_skip rfl rfl rfl (t_skip rfl rfl rfl (t_pick_t rfl rfl rfl rfl (t_nil' (hK11 _ _ (c_cond_t rfl (c_seq fun K17 hK17 => (c_region (t_call (vs := []) own16 rfl rfl rfl rfl (known_c _) (fun v18 w19 r21 => ?_)))))))))))))
   obtain ⟨rfl, u20⟩ := r21
   have zu20 := u20.size
   have E22 := E16.next u20 (fun _ _ h => h.elim)
   refine t_assign rfl rfl rfl (t_nil' (hK17 _ _ (c_ret (f_ret1 (v := .bool true) Try.results13 rfl ?_))))
   exact ⟨rfl, E22⟩
  ·
   refine t_field Try.underlying37 rfl Try.sizeOf34 (0) rfl rfl rfl rfl ?_
   have B23 := (B4.keep u14 (fun h => h))
   refine t_load Try.isAgg34 rfl rfl rfl (B23.get rfl) (t_len Try.underlying34 rfl rfl rfl rfl (t_cmp rfl rfl rfl rfl rfl (t_move rfl rfl rfl (t_splitp 18 rfl (fun g18 => ?_) (fun g18 => ?_)))))
   ·
    refine t_field Try.underlying37 rfl Try.sizeOf34 (0) rfl rfl rfl rfl (t_load Try.isAgg34 rfl rfl rfl (B23.get rfl) (t_len Try.underlying34 rfl rfl rfl rfl (t_cmp rfl rfl rfl rfl rfl (t_pick_t rfl rfl rfl rfl (t_pick_f rfl rfl rfl rfl (t_move rfl rfl rfl (t_splitp 25 rfl (fun g25 => ?_) (fun g25 => ?_))))))))
    ·
     refine t_skip rfl rfl rfl (t_skip rfl rfl rfl (t_skip rfl rfl rfl (t_skip rfl rfl rfl (t_skip rfl rfl rfl (t_skip rfl rfl rfl (t_skip rfl rfl rfl (t_skip rfl rfl rfl (t_skip rfl rfl rfl (t_skip rfl rfl rfl (t_pick_t rfl rfl rfl rfl (t_move rfl rfl rfl (t_skip rfl rfl rfl (t_skip rfl rfl rfl (t_skip rfl rfl rfl (t_skip rfl rfl rfl (t_skip rfl rfl rfl (t_skip rfl rfl rfl (t_pick_t rfl rfl rfl rfl (t_nil' (hK11 _ _ (c_cond_t rfl (c_seq fun K24 hK24 => (c_region ?_)))))))))))))))))))))))
     refine t_call (vs := []) own16 rfl rfl rfl rfl (known_c _) (fun v25 w26 r28 => ?_)
     obtain ⟨rfl, u27⟩ := r28
     have zu27 := u27.size
     have E29 := E16.next u27 (fun _ _ h => h.elim)
     refine t_assign rfl rfl rfl (t_nil' (hK24 _ _ (c_ret (f_ret1 (v := .bool true) Try.results13 rfl ?_))))
     exact ⟨rfl, E29⟩
    ·
     refine t_field Try.underlying37 rfl Try.sizeOf35 (1) rfl rfl rfl rfl (t_load Try.isAgg35 rfl rfl rfl (B23.get rfl) (t_len Try.underlying35 rfl rfl rfl rfl (t_cmp rfl rfl rfl rfl rfl (t_move rfl rfl rfl (t_splitp 30 rfl (fun g30 => ?_) (fun g30 => ?_))))))
     ·
      refine t_field Try.underlying37 rfl Try.sizeOf35 (1) rfl rfl rfl rfl (t_load Try.isAgg35 rfl rfl rfl (B23.get rfl) (t_len Try.underlying35 rfl rfl rfl rfl (t_cmp rfl rfl rfl rfl rfl (t_pick_t rfl rfl rfl rfl (t_pick_f rfl rfl rfl rfl (t_move rfl rfl rfl (t_splitp 37 rfl (fun g37 => ?_) (fun g37 => ?_))))))))
      ·
       refine t_skip rfl rfl rfl (t_skip rfl rfl rfl (t_skip rfl rfl rfl (t_skip rfl rfl rfl (t_skip rfl rfl rfl (t_skip rfl rfl rfl (t_pick_t rfl rfl rfl rfl (t_nil' (hK11 _ _ (c_cond_t rfl (c_seq fun K30 hK30 => (c_region (t_call (vs := []) own16 rfl rfl rfl rfl (known_c _) (fun v31 w32 r34 => ?_)))))))))))))
       obtain ⟨rfl, u33⟩ := r34
       have zu33 := u33.size
       have E35 := E16.next u33 (fun _ _ h => h.elim)
       refine t_assign rfl rfl rfl (t_nil' (hK30 _ _ (c_ret (f_ret1 (v := .bool true) Try.results13 rfl ?_))))
       exact ⟨rfl, E35⟩
      ·
       refine t_move rfl rfl rfl (t_cmp rfl rfl rfl rfl rfl (t_move rfl rfl rfl (t_splitp 40 rfl (fun g40 => ?_) (fun g40 => ?_))))
       ·
        refine t_move rfl rfl rfl (t_cmp rfl rfl rfl rfl rfl (t_pick_t rfl rfl rfl rfl (t_pick_f rfl rfl rfl rfl (t_nil' (hK11 _ _ (c_condp rfl (fun g44 => ?_) (fun g44 => ?_)))))))
        ·
         refine c_seq fun K36 hK36 => (c_region (t_call (vs := []) own16 rfl rfl rfl rfl (known_c _) (fun v37 w38 r40 => ?_)))
         obtain ⟨rfl, u39⟩ := r40
         have zu39 := u39.size
         have E41 := E16.next u39 (fun _ _ h => h.elim)
         refine t_assign rfl rfl rfl (t_nil' (hK36 _ _ (c_ret (f_ret1 (v := .bool true) Try.results13 rfl ?_))))
         exact ⟨rfl, E41⟩
        ·
         refine c_skip ?_
         exact hK8 () _ _ ⟨rfl, rfl, trivial⟩ ⟨((Upd.refl _ _).next u14 (fun _ _ h => h.elim)), g13⟩
       ·
        refine t_skip rfl rfl rfl (t_skip rfl rfl rfl (t_pick_f rfl rfl rfl rfl (t_pick_f rfl rfl rfl rfl (t_nil' (hK11 _ _ (c_cond_f rfl (c_skip ?_)))))))
        exact hK8 () _ _ ⟨rfl, rfl, trivial⟩ ⟨((Upd.refl _ _).next u14 (fun _ _ h => h.elim)), g13⟩
     ·
      refine t_skip rfl rfl rfl (t_skip rfl rfl rfl (t_skip rfl rfl rfl (t_skip rfl rfl rfl (t_pick_f rfl rfl rfl rfl (t_pick_f rfl rfl rfl rfl (t_move rfl rfl rfl (t_move rfl rfl rfl (t_cmp rfl rfl rfl rfl rfl (t_move rfl rfl rfl (t_splitp 40 rfl (fun g40 => ?_) (fun g40 => ?_)))))))))))
      ·
       refine t_move rfl rfl rfl (t_cmp rfl rfl rfl rfl rfl (t_pick_t rfl rfl rfl rfl (t_pick_f rfl rfl rfl rfl (t_nil' (hK11 _ _ (c_condp rfl (fun g44 => ?_) (fun g44 => ?_)))))))
       ·
        refine c_seq fun K42 hK42 => (c_region (t_call (vs := []) own16 rfl rfl rfl rfl (known_c _) (fun v43 w44 r46 => ?_)))
        obtain ⟨rfl, u45⟩ := r46
        have zu45 := u45.size
        have E47 := E16.next u45 (fun _ _ h => h.elim)
        refine t_assign rfl rfl rfl (t_nil' (hK42 _ _ (c_ret (f_ret1 (v := .bool true) Try.results13 rfl ?_))))
        exact ⟨rfl, E47⟩
       ·
        refine c_skip ?_
        exact hK8 () _ _ ⟨rfl, rfl, trivial⟩ ⟨((Upd.refl _ _).next u14 (fun _ _ h => h.elim)), g13⟩
      ·
       refine t_skip rfl rfl rfl (t_skip rfl rfl rfl (t_pick_f rfl rfl rfl rfl (t_pick_f rfl rfl rfl rfl (t_nil' (hK11 _ _ (c_cond_f rfl (c_skip ?_)))))))
       exact hK8 () _ _ ⟨rfl, rfl, trivial⟩ ⟨((Upd.refl _ _).next u14 (fun _ _ h => h.elim)), g13⟩
   ·
    refine t_skip rfl rfl rfl (t_skip rfl rfl rfl (t_skip rfl rfl rfl (t_skip rfl rfl rfl (t_pick_f rfl rfl rfl rfl (t_pick_f rfl rfl rfl rfl (t_move rfl rfl rfl (t_field Try.underlying37 rfl Try.sizeOf35 (1) rfl rfl rfl rfl (t_load Try.isAgg35 rfl rfl rfl (B23.get rfl) (t_len Try.underlying35 rfl rfl rfl rfl (t_cmp rfl rfl rfl rfl rfl (t_move rfl rfl rfl (t_splitp 30 rfl (fun g30 => ?_) (fun g30 => ?_)))))))))))))
    ·
     refine t_field Try.underlying37 rfl Try.sizeOf35 (1) rfl rfl rfl rfl (t_load Try.isAgg35 rfl rfl rfl (B23.get rfl) (t_len Try.underlying35 rfl rfl rfl rfl (t_cmp rfl rfl rfl rfl rfl (t_pick_t rfl rfl rfl rfl (t_pick_f rfl rfl rfl rfl (t_move rfl rfl rfl (t_splitp 37 rfl (fun g37 => ?_) (fun g37 => ?_))))))))
     ·
      refine t_skip rfl rfl rfl (t_skip rfl rfl rfl (t_skip rfl rfl rfl (t_skip rfl rfl rfl (t_skip rfl rfl rfl (t_skip rfl rfl rfl (t_pick_t rfl rfl rfl rfl (t_nil' (hK11 _ _ (c_cond_t rfl (c_seq fun K48 hK48 => (c_region (t_call (vs := []) own16 rfl rfl rfl rfl (known_c _) (fun v49 w50 r52 => ?_)))))))))))))
      obtain ⟨rfl, u51⟩ := r52
      have zu51 := u51.size
      have E53 := E16.next u51 (fun _ _ h => h.elim)
      refine t_assign rfl rfl rfl (t_nil' (hK48 _ _ (c_ret (f_ret1 (v := .bool true) Try.results13 rfl ?_))))
      exact ⟨rfl, E53⟩
     ·
      refine t_move rfl rfl rfl (t_cmp rfl rfl rfl rfl rfl (t_move rfl rfl rfl (t_splitp 40 rfl (fun g40 => ?_) (fun g40 => ?_))))
      ·
       refine t_move rfl rfl rfl (t_cmp rfl rfl rfl rfl rfl (t_pick_t rfl rfl rfl rfl (t_pick_f rfl rfl rfl rfl (t_nil' (hK11 _ _ (c_condp rfl (fun g44 => ?_) (fun g44 => ?_)))))))
       ·
        refine c_seq fun K54 hK54 => (c_region (t_call (vs := []) own16 rfl rfl rfl rfl (known_c _) (fun v55 w56 r58 => ?_)))
        obtain ⟨rfl, u57⟩ := r58
        have zu57 := u57.size
        have E59 := E16.next u57 (fun _ _ h => h.elim)
        refine t_assign rfl rfl rfl (t_nil' (hK54 _ _ (c_ret (f_ret1 (v := .bool true) Try.results13 rfl ?_))))
        exact ⟨rfl, E59⟩
       ·
        refine c_skip ?_
        exact hK8 () _ _ ⟨rfl, rfl, trivial⟩ ⟨((Upd.refl _ _).next u14 (fun _ _ h => h.elim)), g13⟩
      ·
       refine t_skip rfl rfl rfl (t_skip rfl rfl rfl (t_pick_f rfl rfl rfl rfl (t_pick_f rfl rfl rfl rfl (t_nil' (hK11 _ _ (c_cond_f rfl (c_skip ?_)))))))
       exact hK8 () _ _ ⟨rfl, rfl, trivial⟩ ⟨((Upd.refl _ _).next u14 (fun _ _ h => h.elim)), g13⟩
    ·
     refine t_skip rfl rfl rfl (t_skip rfl rfl rfl (t_skip rfl rfl rfl (t_skip rfl rfl rfl (t_pick_f rfl rfl rfl rfl (t_pick_f rfl rfl rfl rfl (t_move rfl rfl rfl (t_move rfl rfl rfl (t_cmp rfl rfl rfl rfl rfl (t_move rfl rfl rfl (t_splitp 40 rfl (fun g40 => ?_) (fun g40 => ?_)))))))))))
     ·
      refine t_move rfl rfl rfl (t_cmp rfl rfl rfl rfl rfl (t_pick_t rfl rfl rfl rfl (t_pick_f rfl rfl rfl rfl (t_nil' (hK11 _ _ (c_condp rfl (fun g44 => ?_) (fun g44 => ?_)))))))
      ·
       refine c_seq fun K60 hK60 => (c_region (t_call (vs := []) own16 rfl rfl rfl rfl (known_c _) (fun v61 w62 r64 => ?_)))
       obtain ⟨rfl, u63⟩ := r64
       have zu63 := u63.size
       have E65 := E16.next u63 (fun _ _ h => h.elim)
       refine t_assign rfl rfl rfl (t_nil' (hK60 _ _ (c_ret (f_ret1 (v := .bool true) Try.results13 rfl ?_))))
       exact ⟨rfl, E65⟩
      ·
       refine c_skip ?_
       exact hK8 () _ _ ⟨rfl, rfl, trivial⟩ ⟨((Upd.refl _ _).next u14 (fun _ _ h => h.elim)), g13⟩
     ·
      refine t_skip rfl rfl rfl (t_skip rfl rfl rfl (t_pick_f rfl rfl rfl rfl (t_pick_f rfl rfl rfl rfl (t_nil' (hK11 _ _ (c_cond_f rfl (c_skip ?_)))))))
      exact hK8 () _ _ ⟨rfl, rfl, trivial⟩ ⟨((Upd.refl _ _).next u14 (fun _ _ h => h.elim)), g13⟩
 ·
  intro _x w9 hW
  obtain ⟨u10, I66⟩ := hW
  have zu10 := u10.size
  have E67 := E6.next u10 (fun _ _ h => h.elim)
  have hno := I66; clear I66
  have hlr := lrg_no hno
  have hrl : ∀ x ∈ vs, x.v.runs.length ≤ 1000000 := fun x hx => Nat.le_trans (hlr.1 x hx) (by decide)
  have hvl2 : (vs.map HVoy.v).length ≤ 1000000 := by rw [List.length_map]; omega
  have hrl2 : ∀ v ∈ (vs.map HVoy.v), v.runs.length ≤ 1000000 := fun v hv => by obtain ⟨x, hx, rfl⟩ := List.mem_map.1 hv; exact hrl x hx
  refine c_seq fun K68 hK68 => ?_
  have B69 := (B4.keep u10 (fun h => h))
  refine WC.weak [(1, .int .i64 most), (2, .pointer (some ⟨bk2, 0, none⟩))] ⟨rfl, rfl, trivial⟩ (c_drawn follows 17 [some (47, some (.pointer (some ⟨bk2, 0, none⟩))), some (48, some (.slice av vs.length cv)), some (49, none), some (50, some (.pointer (some ⟨bk2, 1, none⟩))), some (51, some (.slice an ns.length cn)), some (52, none), some (53, some (.int .i64 most)), some (54, none), some (46, none), some (55, none), some (56, none), some (57, none), some (58, none), some (5, none), some (6, none), some (7, none), some (8, none)] [[],[0],[1],[],[3],[4,2],[],[2,5,6,5],[7],[8],[8],[8],[8],[9,7,0,1,2,3,4,5,6,7,8,9],[10,13,0,1,2,3,4,5,6,7,8,9,10,13],[11,14,0,1,2,3,4,5,6,7,8,9,10,11,13,14],[12,15,0,1,2,3,4,5,6,7,8,9,10,11,12,13,14,15]] (fun D ρ w => Upd (fun _ => False) w9 w ∧ (D 2 = true → ∃ us aoU bU cpU, ρ 2 = .slice aoU us.length cpU ∧ (D 7 = false → (us.map HVoy.v = vs.map HVoy.v ∧ Sl encHVoy 5 w aoU bU 0 us ∧ ∀ x ∈ us, Sl encRun 6 w x.ao x.b x.o x.v.runs))) ∧ (D 5 = true → ∃ aoN bN cpN, ρ 5 = .slice aoN ns.length cpN ∧ (D 7 = false → Sl encNar 4 w aoN bN 0 ns)) ∧ (D 7 = true → ∃ ordA hsA totA eA aoA bA cpA aoB bB cpB, ρ 7 = .tuple #[.slice aoA (List.length ordA) cpA, .slice aoB (List.length hsA) cpB, .int .i64 totA, .int .i64 eA] ∧ (Sl encI 1 w aoA bA 0 ordA ∧ Sl encI 1 w aoB bB 0 hsA ∧ OrderA (vs.map HVoy.v) ns most ordA hsA totA eA) ∧ (D 8 = true → ρ 8 = .tuple #[.slice aoA (List.length ordA) cpA, .slice aoB (List.length hsA) cpB, .int .i64 totA, .int .i64 eA]) ∧ (D 9 = true → ρ 9 = .slice aoA (List.length ordA) cpA) ∧ (D 10 = true → ρ 10 = .slice aoB (List.length hsA) cpB) ∧ (D 11 = true → ρ 11 = .int .i64 totA) ∧ (D 12 = true → ρ 12 = .int .i64 eA) ∧ (D 13 = true → ρ 13 = .slice aoA (List.length ordA) cpA) ∧ (D 14 = true → ρ 14 = .slice aoB (List.length hsA) cpB) ∧ (D 15 = true → ρ 15 = .int .i64 totA) ∧ (D 16 = true → ρ 16 = .int .i64 eA))) rfl rfl rfl (by kernel_rfl) (by kernel_rfl) ⟨(Upd.drew _).to, (fun h => by cases h), (fun h => by cases h), (fun h => by cases h)⟩ ⟨?_, ?_, ?_, ?_, ?_, ?_, ?_, ?_, ?_, ?_, ?_, ?_, ?_, ?_, ?_, ?_, ?_, trivial⟩ ?_)
  · exact pzf Try.underlying37 rfl Try.sizeOf34 (0) rfl rfl rfl rfl rfl fun _ _ _ h => h
  · exact fun D ρ w88 hcD hnD hdD hW => ⟨_, kf_fr [47], fun Lr => t_load Try.isAgg34 rfl rfl rfl ((B69.keep hW.1 (fun h => h)).get rfl) (dz rfl hW)⟩
  ·
   intro D ρ w95 hcD hnD hdD hW
   obtain ⟨u96, F97, F98, F99⟩ := hW
   have zu96 := u96.size
   have E100 := E67.next u96 (fun _ _ h => h.elim)
   refine ⟨_, kf_fr [48], fun Lr => ?_⟩
   refine t_call (vs := [.slice av vs.length cv]) own24 rfl rfl rfl rfl (all_c vs av bv ov cv _ (hs.keep E100 (fun _ h => h)) (fun x hx => (hruns x hx).keep E100 (fun _ h => h)) (by omega) hrl) (fun v101 w102 r104 => ?_)
   obtain ⟨⟨us, aoU, bU, cpU, rfl, hU⟩, u103⟩ := r104
   have zu103 := u103.size
   exact dzn rfl ⟨(u96.next u103 (fun _ _ h => h.elim)), (fun _ => ⟨us, aoU, bU, cpU, rfl, fun _ => hU⟩), (fun h => absurd ((hcD.late 5 hnD rfl).symm.trans h) (by decide)), (fun h => absurd ((hcD.late 7 hnD rfl).symm.trans h) (by decide))⟩
  · exact pzf Try.underlying37 rfl Try.sizeOf35 (1) rfl rfl rfl rfl rfl fun _ _ _ h => h
  · exact fun D ρ w106 hcD hnD hdD hW => ⟨_, kf_fr [50], fun Lr => t_load Try.isAgg35 rfl rfl rfl ((B69.keep hW.1 (fun h => h)).get rfl) (dz rfl hW)⟩
  ·
   intro D ρ w113 hcD hnD hdD hW
   obtain ⟨u114, F115, F116, F117⟩ := hW
   have zu114 := u114.size
   have E118 := E67.next u114 (fun _ _ h => h.elim)
   refine ⟨_, kf_fr [51], fun Lr => ?_⟩
   refine t_call (vs := [.slice an ns.length cn]) own25 rfl rfl rfl rfl (narrows_c ns an bn on cn _ (hn.keep E118 (fun _ h => h)) (by omega)) (fun v119 w120 r122 => ?_)
   obtain ⟨⟨aoN, bN, cpN, rfl, hN, _⟩, u121⟩ := r122
   have zu121 := u121.size
   exact dzn rfl ⟨(u114.next u121 (fun _ _ h => h.elim)), (fun h => by obtain ⟨us, aoU, bU, cpU, e, hB⟩ := F115 h; exact ⟨us, aoU, bU, cpU, e, fun h2 => ⟨(hB h2).1, ((hB h2).2.1.keep u121 (fun _ h => h)), fun x hx => (((hB h2).2.2 x hx).keep u121 (fun _ h => h))⟩⟩), (fun _ => ⟨aoN, bN, cpN, rfl, fun _ => hN⟩), (fun h => absurd ((hcD.late 7 hnD rfl).symm.trans h) (by decide))⟩
  · exact pz rfl rfl rfl rfl fun _ _ _ h => h
  ·
   intro D ρ w124 hcD hnD hdD hW
   obtain ⟨u125, F126, F127, F128⟩ := hW
   have zu125 := u125.size
   obtain ⟨us, aoU, bU, cpU, e130, H131⟩ := F126 (hdD 2 rfl)
   have H132 := H131 hnD
   obtain ⟨aoN, bN, cpN, e133, H134⟩ := F127 (hdD 5 rfl)
   have H135 := H134 hnD
   refine ⟨[(49, .slice aoU us.length cpU), (52, .slice aoN ns.length cpN), (53, .int .i64 most)], ⟨fi 2 rfl rfl e130.symm, fi 5 rfl rfl e133.symm, fi 6 rfl rfl rfl, trivial⟩, fun Lr => ?_⟩
   refine t_call (vs := [.slice aoU us.length cpU, .slice aoN ns.length cpN, .int .i64 most]) own52 rfl rfl rfl rfl (OrderU_c us aoU bU cpU ns aoN bN 0 cpN most (vs.map HVoy.v) _ H132.1 H132.2.1 (show ∀ x ∈ us, Sl encRun 6 w124 x.ao x.b x.o x.v.runs from H132.2.2) H135 hvl2 hrl2 (by omega)) (fun v136 w137 r139 => ?_)
   obtain ⟨⟨ordA, hsA, totA, eA, aoA, bA, cpA, aoB, bB, cpB, rfl, hHA⟩, u138⟩ := r139
   have zu138 := u138.size
   exact dzn rfl ⟨(u125.next u138 (fun _ _ h => h.elim)), (fun h => by obtain ⟨us, aoU, bU, cpU, e, _⟩ := F126 h; exact ⟨us, aoU, bU, cpU, e, fun h => by cases h⟩), (fun h => by obtain ⟨aoN, bN, cpN, e, _⟩ := F127 h; exact ⟨aoN, bN, cpN, e, fun h => by cases h⟩), (fun _ => ⟨ordA, hsA, totA, eA, aoA, bA, cpA, aoB, bB, cpB, rfl, hHA, (fun h => absurd ((hcD.late 8 hnD rfl).symm.trans h) (by decide)), (fun h => absurd ((hcD.late 9 (hcD.late 8 hnD rfl) rfl).symm.trans h) (by decide)), (fun h => absurd ((hcD.late 10 (hcD.late 8 hnD rfl) rfl).symm.trans h) (by decide)), (fun h => absurd ((hcD.late 11 (hcD.late 8 hnD rfl) rfl).symm.trans h) (by decide)), (fun h => absurd ((hcD.late 12 (hcD.late 8 hnD rfl) rfl).symm.trans h) (by decide)), (fun h => absurd ((hcD.late 13 hnD rfl).symm.trans h) (by decide)), (fun h => absurd ((hcD.late 14 hnD rfl).symm.trans h) (by decide)), (fun h => absurd ((hcD.late 15 hnD rfl).symm.trans h) (by decide)), (fun h => absurd ((hcD.late 16 hnD rfl).symm.trans h) (by decide))⟩)⟩
  ·
   intro D ρ w141 hcD hnD hdD hW
   obtain ⟨u142, F143, F144, F145⟩ := hW
   have zu142 := u142.size
   obtain ⟨ordA, hsA, totA, eA, aoA, bA, cpA, aoB, bB, cpB, e147, H148, k149, k150, k151, k152, k153, k154, k155, k156, k157⟩ := F145 (hdD 7 rfl)
   have hOA := H148.2.2
   refine ⟨[(54, .tuple #[.slice aoA (List.length ordA) cpA, .slice aoB (List.length hsA) cpB, .int .i64 totA, .int .i64 eA])], ⟨fi 7 rfl rfl e147.symm, trivial⟩, fun Lr => ?_⟩
   refine t_move rfl rfl rfl ?_
   exact dzn rfl ⟨u142, F143, F144, (fun _ => ⟨ordA, hsA, totA, eA, aoA, bA, cpA, aoB, bB, cpB, e147, H148, (fun _ => rfl), k150, k151, k152, k153, k154, k155, k156, k157⟩)⟩
  ·
   intro D ρ w158 hcD hnD hdD hW
   obtain ⟨u159, F160, F161, F162⟩ := hW
   have zu159 := u159.size
   obtain ⟨ordA, hsA, totA, eA, aoA, bA, cpA, aoB, bB, cpB, e164, H165, k166, k167, k168, k169, k170, k171, k172, k173, k174⟩ := F162 (hcD 8 (hdD 8 rfl) 7 (memB_iff.1 rfl))
   have hOA := H165.2.2
   refine ⟨[(46, .tuple #[.slice aoA (List.length ordA) cpA, .slice aoB (List.length hsA) cpB, .int .i64 totA, .int .i64 eA])], ⟨fi 8 rfl rfl (k166 (hdD 8 rfl)).symm, trivial⟩, fun Lr => ?_⟩
   refine t_extract (vs := [.slice aoA (List.length ordA) cpA, .slice aoB (List.length hsA) cpB, .int .i64 totA, .int .i64 eA]) rfl rfl rfl rfl ?_
   exact dzn rfl ⟨u159, F160, F161, (fun _ => ⟨ordA, hsA, totA, eA, aoA, bA, cpA, aoB, bB, cpB, e164, H165, k166, (fun _ => rfl), k168, k169, k170, k171, k172, k173, k174⟩)⟩
  ·
   intro D ρ w175 hcD hnD hdD hW
   obtain ⟨u176, F177, F178, F179⟩ := hW
   have zu176 := u176.size
   obtain ⟨ordA, hsA, totA, eA, aoA, bA, cpA, aoB, bB, cpB, e181, H182, k183, k184, k185, k186, k187, k188, k189, k190, k191⟩ := F179 (hcD 8 (hdD 8 rfl) 7 (memB_iff.1 rfl))
   have hOA := H182.2.2
   refine ⟨[(46, .tuple #[.slice aoA (List.length ordA) cpA, .slice aoB (List.length hsA) cpB, .int .i64 totA, .int .i64 eA])], ⟨fi 8 rfl rfl (k183 (hdD 8 rfl)).symm, trivial⟩, fun Lr => ?_⟩
   refine t_extract (vs := [.slice aoA (List.length ordA) cpA, .slice aoB (List.length hsA) cpB, .int .i64 totA, .int .i64 eA]) rfl rfl rfl rfl ?_
   exact dzn rfl ⟨u176, F177, F178, (fun _ => ⟨ordA, hsA, totA, eA, aoA, bA, cpA, aoB, bB, cpB, e181, H182, k183, k184, (fun _ => rfl), k186, k187, k188, k189, k190, k191⟩)⟩
  ·
   intro D ρ w192 hcD hnD hdD hW
   obtain ⟨u193, F194, F195, F196⟩ := hW
   have zu193 := u193.size
   obtain ⟨ordA, hsA, totA, eA, aoA, bA, cpA, aoB, bB, cpB, e198, H199, k200, k201, k202, k203, k204, k205, k206, k207, k208⟩ := F196 (hcD 8 (hdD 8 rfl) 7 (memB_iff.1 rfl))
   have hOA := H199.2.2
   refine ⟨[(46, .tuple #[.slice aoA (List.length ordA) cpA, .slice aoB (List.length hsA) cpB, .int .i64 totA, .int .i64 eA])], ⟨fi 8 rfl rfl (k200 (hdD 8 rfl)).symm, trivial⟩, fun Lr => ?_⟩
   refine t_extract (vs := [.slice aoA (List.length ordA) cpA, .slice aoB (List.length hsA) cpB, .int .i64 totA, .int .i64 eA]) rfl rfl rfl rfl ?_
   exact dzn rfl ⟨u193, F194, F195, (fun _ => ⟨ordA, hsA, totA, eA, aoA, bA, cpA, aoB, bB, cpB, e198, H199, k200, k201, k202, (fun _ => rfl), k204, k205, k206, k207, k208⟩)⟩
  ·
   intro D ρ w209 hcD hnD hdD hW
   obtain ⟨u210, F211, F212, F213⟩ := hW
   have zu210 := u210.size
   obtain ⟨ordA, hsA, totA, eA, aoA, bA, cpA, aoB, bB, cpB, e215, H216, k217, k218, k219, k220, k221, k222, k223, k224, k225⟩ := F213 (hcD 8 (hdD 8 rfl) 7 (memB_iff.1 rfl))
   have hOA := H216.2.2
   refine ⟨[(46, .tuple #[.slice aoA (List.length ordA) cpA, .slice aoB (List.length hsA) cpB, .int .i64 totA, .int .i64 eA])], ⟨fi 8 rfl rfl (k217 (hdD 8 rfl)).symm, trivial⟩, fun Lr => ?_⟩
   refine t_extract (vs := [.slice aoA (List.length ordA) cpA, .slice aoB (List.length hsA) cpB, .int .i64 totA, .int .i64 eA]) rfl rfl rfl rfl ?_
   exact dzn rfl ⟨u210, F211, F212, (fun _ => ⟨ordA, hsA, totA, eA, aoA, bA, cpA, aoB, bB, cpB, e215, H216, k217, k218, k219, k220, (fun _ => rfl), k222, k223, k224, k225⟩)⟩
  ·
   intro D ρ w226 hcD hnD hdD hW
   obtain ⟨u227, F228, F229, F230⟩ := hW
   have zu227 := u227.size
   obtain ⟨ordA, hsA, totA, eA, aoA, bA, cpA, aoB, bB, cpB, e232, H233, k234, k235, k236, k237, k238, k239, k240, k241, k242⟩ := F230 (hdD 7 rfl)
   have hOA := H233.2.2
   refine ⟨[(55, .slice aoA (List.length ordA) cpA)], ⟨fi 9 rfl rfl (k235 (hdD 9 rfl)).symm, trivial⟩, fun Lr => ?_⟩
   refine t_assign rfl rfl rfl ?_
   exact dzn rfl ⟨u227, F228, F229, (fun _ => ⟨ordA, hsA, totA, eA, aoA, bA, cpA, aoB, bB, cpB, e232, H233, k234, k235, k236, k237, k238, (fun _ => rfl), k240, k241, k242⟩)⟩
  ·
   intro D ρ w243 hcD hnD hdD hW
   obtain ⟨u244, F245, F246, F247⟩ := hW
   have zu244 := u244.size
   obtain ⟨ordA, hsA, totA, eA, aoA, bA, cpA, aoB, bB, cpB, e249, H250, k251, k252, k253, k254, k255, k256, k257, k258, k259⟩ := F247 (hdD 7 rfl)
   have hOA := H250.2.2
   refine ⟨[(56, .slice aoB (List.length hsA) cpB)], ⟨fi 10 rfl rfl (k253 (hdD 10 rfl)).symm, trivial⟩, fun Lr => ?_⟩
   refine t_assign rfl rfl rfl ?_
   exact dzn rfl ⟨u244, F245, F246, (fun _ => ⟨ordA, hsA, totA, eA, aoA, bA, cpA, aoB, bB, cpB, e249, H250, k251, k252, k253, k254, k255, k256, (fun _ => rfl), k258, k259⟩)⟩
  ·
   intro D ρ w260 hcD hnD hdD hW
   obtain ⟨u261, F262, F263, F264⟩ := hW
   have zu261 := u261.size
   obtain ⟨ordA, hsA, totA, eA, aoA, bA, cpA, aoB, bB, cpB, e266, H267, k268, k269, k270, k271, k272, k273, k274, k275, k276⟩ := F264 (hdD 7 rfl)
   have hOA := H267.2.2
   refine ⟨[(57, .int .i64 totA)], ⟨fi 11 rfl rfl (k271 (hdD 11 rfl)).symm, trivial⟩, fun Lr => ?_⟩
   refine t_assign rfl rfl rfl ?_
   exact dzn rfl ⟨u261, F262, F263, (fun _ => ⟨ordA, hsA, totA, eA, aoA, bA, cpA, aoB, bB, cpB, e266, H267, k268, k269, k270, k271, k272, k273, k274, (fun _ => rfl), k276⟩)⟩
  ·
   intro D ρ w277 hcD hnD hdD hW
   obtain ⟨u278, F279, F280, F281⟩ := hW
   have zu278 := u278.size
   obtain ⟨ordA, hsA, totA, eA, aoA, bA, cpA, aoB, bB, cpB, e283, H284, k285, k286, k287, k288, k289, k290, k291, k292, k293⟩ := F281 (hdD 7 rfl)
   have hOA := H284.2.2
   refine ⟨[(58, .int .i64 eA)], ⟨fi 12 rfl rfl (k289 (hdD 12 rfl)).symm, trivial⟩, fun Lr => ?_⟩
   refine t_assign rfl rfl rfl ?_
   exact dzn rfl ⟨u278, F279, F280, (fun _ => ⟨ordA, hsA, totA, eA, aoA, bA, cpA, aoB, bB, cpB, e283, H284, k285, k286, k287, k288, k289, k290, k291, k292, (fun _ => rfl)⟩)⟩
  intro ρ w294 hW
  obtain ⟨u295, F296, F297, F298⟩ := hW
  have zu295 := u295.size
  have E299 := E67.next u295 (fun _ _ h => h.elim)
  obtain ⟨ordA, hsA, totA, eA, aoA, bA, cpA, aoB, bB, cpB, e302, H303, k304, k305, k306, k307, k308, k309, k310, k311, k312⟩ := F298 rfl
  have hOA := H303.2.2
  refine QK.weak [(1, .int .i64 most), (2, .pointer (some ⟨bk2, 0, none⟩)), (5, .slice aoA (List.length ordA) cpA), (6, .slice aoB (List.length hsA) cpB), (7, .int .i64 totA), (8, .int .i64 eA)] ⟨rfl, rfl, (look_nd (j := 13) rfl rfl rfl (k309 rfl)), (look_nd (j := 14) rfl rfl rfl (k310 rfl)), (look_nd (j := 15) rfl rfl rfl (k311 rfl)), (look_nd (j := 16) rfl rfl rfl (k312 rfl)), trivial⟩ (hK68 _ _ (c_seq fun K313 hK313 => (c_region (t_field Try.underlying37 rfl Try.sizeOf34 (0) rfl rfl rfl rfl ?_))))
  have B314 := (B69.keep u295 (fun h => h))
  refine t_load Try.isAgg34 rfl rfl rfl (B314.get rfl) (t_field Try.underlying37 rfl Try.sizeOf35 (1) rfl rfl rfl rfl (t_load Try.isAgg35 rfl rfl rfl (B314.get rfl) (t_call (vs := [.slice av vs.length cv, .slice an ns.length cn]) own26 rfl rfl rfl rfl (rStart_c vs av bv ov cv ns an bn on cn _ (hs.keep E299 (fun _ h => h)) (fun x hx => (hruns x hx).keep E299 (fun _ h => h)) (hn.keep E299 (fun _ h => h)) (by omega) (by omega) hrl) (fun v315 w316 r318 => ?_))))
  obtain ⟨rfl, u317⟩ := r318
  have zu317 := u317.size
  have E319 := E299.next u317 (fun _ _ h => h.elim)
  refine t_assign rfl rfl rfl (t_nil' (hK313 _ _ (c_seq fun K320 hK320 => (c_seq fun K321 hK321 => (c_region (t_move rfl rfl rfl (t_cmp rfl rfl rfl rfl rfl (t_move rfl rfl rfl (t_splitp 66 rfl (fun g66 => ?_) (fun g66 => ?_))))))))))
  ·
   refine t_move rfl rfl rfl (t_cmp rfl rfl rfl rfl rfl (t_move rfl rfl rfl (t_splitp 69 rfl (fun g69 => ?_) (fun g69 => ?_))))
   ·
    refine t_skip rfl rfl rfl (t_skip rfl rfl rfl (t_pick_t rfl rfl rfl rfl (t_pick_t rfl rfl rfl rfl (t_nil' (hK321 _ _ (c_cond_t rfl (c_region (t_assign rfl rfl rfl (t_nil' (hK320 _ _ (c_seq fun K322 hK322 => (c_seq fun K323 hK323 => (c_region (t_field Try.underlying37 rfl Try.sizeOf34 (0) rfl rfl rfl rfl ?_))))))))))))))
    have B324 := (B314.keep u317 (fun h => h))
    refine t_load Try.isAgg34 rfl rfl rfl (B324.get rfl) (t_len Try.underlying34 rfl rfl rfl rfl (t_cmp rfl rfl rfl rfl rfl (t_nil' (hK323 _ _ (c_condp rfl (fun g77 => ?_) (fun g77 => ?_))))))
    ·
     refine c_region (t_assign rfl rfl rfl (t_nil' (hK322 _ _ (c_seq fun K325 hK325 => (c_seq fun K326 hK326 => (c_region (t_move rfl rfl rfl (t_cmp rfl rfl rfl rfl rfl (t_samehd (v := .bool true) rfl (t_nil' (hK326 _ _ (c_cond_t rfl (c_seq fun K327 hK327 => (c_region ?_))))))))))))))
     have hw : wantO (vs.map HVoy.v) ns most = 5 := by unfold wantO; rw [List.length_map]; (repeat' split) <;> omega
     obtain ⟨hx1, hx2, hx3, hx4⟩ := order_bad hOA (by omega)
     refine t_move rfl rfl rfl (t_move rfl rfl rfl (t_cmp rfl rfl rfl rfl rfl (t_same 82 (v := .bool true) rfl (congrArg Value.bool (decide_eq_true (by omega))) (t_move rfl rfl rfl (t_move rfl rfl rfl (t_len Try.underlying27 rfl rfl rfl rfl (t_move rfl rfl rfl (t_len Try.underlying27 rfl rfl rfl rfl (t_ari rfl rfl rfl rfl rfl (by omega) (t_cmp rfl rfl rfl rfl rfl (t_same 89 (v := .bool true) rfl (congrArg Value.bool (decide_eq_true (by omega))) (t_pick_t rfl rfl rfl rfl (t_move rfl rfl rfl (t_move rfl rfl rfl (t_cmp rfl rfl rfl rfl rfl (t_same 93 (v := .bool true) rfl (congrArg Value.bool (decide_eq_true (by omega))) (t_pick_t rfl rfl rfl rfl (t_move rfl rfl rfl (t_call (vs := []) own16 rfl rfl rfl rfl (known_c _) (fun v328 w329 r331 => ?_))))))))))))))))))))
     obtain ⟨rfl, u330⟩ := r331
     have zu330 := u330.size
     have E332 := E319.next u330 (fun _ _ h => h.elim)
     refine t_pick_t rfl rfl rfl rfl (t_assign rfl rfl rfl (t_nil' (hK327 _ _ (c_ret (f_ret1 (v := .bool true) Try.results13 rfl ?_)))))
     exact ⟨rfl, E332⟩
    ·
     refine c_skip (hK322 _ _ (c_seq fun K333 hK333 => (c_seq fun K334 hK334 => (c_region (t_move rfl rfl rfl (t_cmp rfl rfl rfl rfl rfl (t_samehd (v := .bool true) rfl (t_nil' (hK334 _ _ (c_cond_t rfl (c_seq fun K335 hK335 => (c_region ?_))))))))))))
     have hw : wantO (vs.map HVoy.v) ns most = 3 := by unfold wantO; rw [List.length_map]; (repeat' split) <;> omega
     obtain ⟨hx1, hx2, hx3, hx4⟩ := order_bad hOA (by omega)
     refine t_move rfl rfl rfl (t_move rfl rfl rfl (t_cmp rfl rfl rfl rfl rfl (t_same 82 (v := .bool true) rfl (congrArg Value.bool (decide_eq_true (by omega))) (t_move rfl rfl rfl (t_move rfl rfl rfl (t_len Try.underlying27 rfl rfl rfl rfl (t_move rfl rfl rfl (t_len Try.underlying27 rfl rfl rfl rfl (t_ari rfl rfl rfl rfl rfl (by omega) (t_cmp rfl rfl rfl rfl rfl (t_same 89 (v := .bool true) rfl (congrArg Value.bool (decide_eq_true (by omega))) (t_pick_t rfl rfl rfl rfl (t_move rfl rfl rfl (t_move rfl rfl rfl (t_cmp rfl rfl rfl rfl rfl (t_same 93 (v := .bool true) rfl (congrArg Value.bool (decide_eq_true (by omega))) (t_pick_t rfl rfl rfl rfl (t_move rfl rfl rfl (t_call (vs := []) own16 rfl rfl rfl rfl (known_c _) (fun v336 w337 r339 => ?_))))))))))))))))))))
     obtain ⟨rfl, u338⟩ := r339
     have zu338 := u338.size
     have E340 := E319.next u338 (fun _ _ h => h.elim)
     refine t_pick_t rfl rfl rfl rfl (t_assign rfl rfl rfl (t_nil' (hK335 _ _ (c_ret (f_ret1 (v := .bool true) Try.results13 rfl ?_)))))
     exact ⟨rfl, E340⟩
   ·
    refine t_move rfl rfl rfl (t_cmp rfl rfl rfl rfl rfl (t_pick_f rfl rfl rfl rfl (t_pick_t rfl rfl rfl rfl (t_nil' (hK321 _ _ (c_condp rfl (fun g73 => ?_) (fun g73 => ?_)))))))
    ·
     refine c_region (t_assign rfl rfl rfl (t_nil' (hK320 _ _ (c_seq fun K341 hK341 => (c_seq fun K342 hK342 => (c_region (t_field Try.underlying37 rfl Try.sizeOf34 (0) rfl rfl rfl rfl ?_)))))))
     have B343 := (B314.keep u317 (fun h => h))
     refine t_load Try.isAgg34 rfl rfl rfl (B343.get rfl) (t_len Try.underlying34 rfl rfl rfl rfl (t_cmp rfl rfl rfl rfl rfl (t_nil' (hK342 _ _ (c_condp rfl (fun g77 => ?_) (fun g77 => ?_))))))
     ·
      refine c_region (t_assign rfl rfl rfl (t_nil' (hK341 _ _ (c_seq fun K344 hK344 => (c_seq fun K345 hK345 => (c_region (t_move rfl rfl rfl (t_cmp rfl rfl rfl rfl rfl (t_samehd (v := .bool true) rfl (t_nil' (hK345 _ _ (c_cond_t rfl (c_seq fun K346 hK346 => (c_region ?_))))))))))))))
      have hw : wantO (vs.map HVoy.v) ns most = 5 := by unfold wantO; rw [List.length_map]; (repeat' split) <;> omega
      obtain ⟨hx1, hx2, hx3, hx4⟩ := order_bad hOA (by omega)
      refine t_move rfl rfl rfl (t_move rfl rfl rfl (t_cmp rfl rfl rfl rfl rfl (t_same 82 (v := .bool true) rfl (congrArg Value.bool (decide_eq_true (by omega))) (t_move rfl rfl rfl (t_move rfl rfl rfl (t_len Try.underlying27 rfl rfl rfl rfl (t_move rfl rfl rfl (t_len Try.underlying27 rfl rfl rfl rfl (t_ari rfl rfl rfl rfl rfl (by omega) (t_cmp rfl rfl rfl rfl rfl (t_same 89 (v := .bool true) rfl (congrArg Value.bool (decide_eq_true (by omega))) (t_pick_t rfl rfl rfl rfl (t_move rfl rfl rfl (t_move rfl rfl rfl (t_cmp rfl rfl rfl rfl rfl (t_same 93 (v := .bool true) rfl (congrArg Value.bool (decide_eq_true (by omega))) (t_pick_t rfl rfl rfl rfl (t_move rfl rfl rfl (t_call (vs := []) own16 rfl rfl rfl rfl (known_c _) (fun v347 w348 r350 => ?_))))))))))))))))))))
      obtain ⟨rfl, u349⟩ := r350
      have zu349 := u349.size
      have E351 := E319.next u349 (fun _ _ h => h.elim)
      refine t_pick_t rfl rfl rfl rfl (t_assign rfl rfl rfl (t_nil' (hK346 _ _ (c_ret (f_ret1 (v := .bool true) Try.results13 rfl ?_)))))
      exact ⟨rfl, E351⟩
     ·
      refine c_skip (hK341 _ _ (c_seq fun K352 hK352 => (c_seq fun K353 hK353 => (c_region (t_move rfl rfl rfl (t_cmp rfl rfl rfl rfl rfl (t_samehd (v := .bool true) rfl (t_nil' (hK353 _ _ (c_cond_t rfl (c_seq fun K354 hK354 => (c_region ?_))))))))))))
      have hw : wantO (vs.map HVoy.v) ns most = 3 := by unfold wantO; rw [List.length_map]; (repeat' split) <;> omega
      obtain ⟨hx1, hx2, hx3, hx4⟩ := order_bad hOA (by omega)
      refine t_move rfl rfl rfl (t_move rfl rfl rfl (t_cmp rfl rfl rfl rfl rfl (t_same 82 (v := .bool true) rfl (congrArg Value.bool (decide_eq_true (by omega))) (t_move rfl rfl rfl (t_move rfl rfl rfl (t_len Try.underlying27 rfl rfl rfl rfl (t_move rfl rfl rfl (t_len Try.underlying27 rfl rfl rfl rfl (t_ari rfl rfl rfl rfl rfl (by omega) (t_cmp rfl rfl rfl rfl rfl (t_same 89 (v := .bool true) rfl (congrArg Value.bool (decide_eq_true (by omega))) (t_pick_t rfl rfl rfl rfl (t_move rfl rfl rfl (t_move rfl rfl rfl (t_cmp rfl rfl rfl rfl rfl (t_same 93 (v := .bool true) rfl (congrArg Value.bool (decide_eq_true (by omega))) (t_pick_t rfl rfl rfl rfl (t_move rfl rfl rfl (t_call (vs := []) own16 rfl rfl rfl rfl (known_c _) (fun v355 w356 r358 => ?_))))))))))))))))))))
      obtain ⟨rfl, u357⟩ := r358
      have zu357 := u357.size
      have E359 := E319.next u357 (fun _ _ h => h.elim)
      refine t_pick_t rfl rfl rfl rfl (t_assign rfl rfl rfl (t_nil' (hK354 _ _ (c_ret (f_ret1 (v := .bool true) Try.results13 rfl ?_)))))
      exact ⟨rfl, E359⟩
    ·
     refine c_skip (hK320 _ _ (c_seq fun K360 hK360 => (c_seq fun K361 hK361 => (c_region (t_field Try.underlying37 rfl Try.sizeOf34 (0) rfl rfl rfl rfl ?_)))))
     have B362 := (B314.keep u317 (fun h => h))
     refine t_load Try.isAgg34 rfl rfl rfl (B362.get rfl) (t_len Try.underlying34 rfl rfl rfl rfl (t_cmp rfl rfl rfl rfl rfl (t_nil' (hK361 _ _ (c_condp rfl (fun g77 => ?_) (fun g77 => ?_))))))
     ·
      refine c_region (t_assign rfl rfl rfl (t_nil' (hK360 _ _ (c_seq fun K363 hK363 => (c_seq fun K364 hK364 => (c_region (t_move rfl rfl rfl (t_cmp rfl rfl rfl rfl rfl (t_samehd (v := .bool true) rfl (t_nil' (hK364 _ _ (c_cond_t rfl (c_seq fun K365 hK365 => (c_region ?_))))))))))))))
      have hw : wantO (vs.map HVoy.v) ns most = 5 := by unfold wantO; rw [List.length_map]; (repeat' split) <;> omega
      obtain ⟨hx1, hx2, hx3, hx4⟩ := order_bad hOA (by omega)
      refine t_move rfl rfl rfl (t_move rfl rfl rfl (t_cmp rfl rfl rfl rfl rfl (t_same 82 (v := .bool true) rfl (congrArg Value.bool (decide_eq_true (by omega))) (t_move rfl rfl rfl (t_move rfl rfl rfl (t_len Try.underlying27 rfl rfl rfl rfl (t_move rfl rfl rfl (t_len Try.underlying27 rfl rfl rfl rfl (t_ari rfl rfl rfl rfl rfl (by omega) (t_cmp rfl rfl rfl rfl rfl (t_same 89 (v := .bool true) rfl (congrArg Value.bool (decide_eq_true (by omega))) (t_pick_t rfl rfl rfl rfl (t_move rfl rfl rfl (t_move rfl rfl rfl (t_cmp rfl rfl rfl rfl rfl (t_same 93 (v := .bool true) rfl (congrArg Value.bool (decide_eq_true (by omega))) (t_pick_t rfl rfl rfl rfl (t_move rfl rfl rfl (t_call (vs := []) own16 rfl rfl rfl rfl (known_c _) (fun v366 w367 r369 => ?_))))))))))))))))))))
      obtain ⟨rfl, u368⟩ := r369
      have zu368 := u368.size
      have E370 := E319.next u368 (fun _ _ h => h.elim)
      refine t_pick_t rfl rfl rfl rfl (t_assign rfl rfl rfl (t_nil' (hK365 _ _ (c_ret (f_ret1 (v := .bool true) Try.results13 rfl ?_)))))
      exact ⟨rfl, E370⟩
     ·
      refine c_skip (hK360 _ _ (c_seq fun K371 hK371 => (c_seq fun K372 hK372 => (c_region (t_move rfl rfl rfl (t_cmp rfl rfl rfl rfl rfl (t_nil' (hK372 _ _ (c_condp rfl (fun g79 => ?_) (fun g79 => ?_))))))))))
      ·
       refine c_seq fun K373 hK373 => (c_region ?_)
       have hw : wantO (vs.map HVoy.v) ns most = (OpenE (vs.map HVoy.v) ns) := by unfold wantO; rw [List.length_map]; (repeat' split) <;> omega
       obtain ⟨hx1, hx2, hx3, hx4⟩ := order_bad hOA (by omega)
       refine t_move rfl rfl rfl (t_move rfl rfl rfl (t_cmp rfl rfl rfl rfl rfl (t_same 82 (v := .bool true) rfl (congrArg Value.bool (decide_eq_true (by omega))) (t_move rfl rfl rfl (t_move rfl rfl rfl (t_len Try.underlying27 rfl rfl rfl rfl (t_move rfl rfl rfl (t_len Try.underlying27 rfl rfl rfl rfl (t_ari rfl rfl rfl rfl rfl (by omega) (t_cmp rfl rfl rfl rfl rfl (t_same 89 (v := .bool true) rfl (congrArg Value.bool (decide_eq_true (by omega))) (t_pick_t rfl rfl rfl rfl (t_move rfl rfl rfl (t_move rfl rfl rfl (t_cmp rfl rfl rfl rfl rfl (t_same 93 (v := .bool true) rfl (congrArg Value.bool (decide_eq_true (by omega))) (t_pick_t rfl rfl rfl rfl (t_move rfl rfl rfl (t_call (vs := []) own16 rfl rfl rfl rfl (known_c _) (fun v374 w375 r377 => ?_))))))))))))))))))))
       obtain ⟨rfl, u376⟩ := r377
       have zu376 := u376.size
       have E378 := E319.next u376 (fun _ _ h => h.elim)
       refine t_pick_t rfl rfl rfl rfl (t_assign rfl rfl rfl (t_nil' (hK373 _ _ (c_ret (f_ret1 (v := .bool true) Try.results13 rfl ?_)))))
       exact ⟨rfl, E378⟩
      ·
       have hE : OpenE (vs.map HVoy.v) ns = 0 := by omega
       have hm5 : 0 ≤ most ∧ most ≤ 5000 := by omega
       have hv6 : vs.length ≤ 6 := by omega
       have hsz := open_len hE
       have hto := thr_of_open hE
       have hokv : ∀ x ∈ vs, okVoy x.v = true := fun x hx => hto.1 x.v (List.mem_map.2 ⟨x, hx, rfl⟩)
       have hokn := hto.2.1
       have hthr : ∀ x ∈ vs, ∀ n ∈ ns, thrE x.v n = 0 := fun x hx => hto.2.2 x.v (List.mem_map.2 ⟨x, hx, rfl⟩)
       have hok2 := order_ok hOA (by rw [List.length_map]; exact hv6) hE hm5
       rw [List.length_map] at hok2
       refine c_skip (hK371 _ _ (c_seq fun K379 hK379 => (c_region (t_field Try.underlying37 rfl Try.sizeOf34 (0) rfl rfl rfl rfl (t_load Try.isAgg34 rfl rfl rfl (B362.get rfl) (t_field Try.underlying37 rfl Try.sizeOf35 (1) rfl rfl rfl rfl (t_load Try.isAgg35 rfl rfl rfl (B362.get rfl) (t_move rfl rfl rfl ?_))))))))
       obtain ⟨fd, hbm, hefd⟩ := hok2
       refine t_call (vs := [.slice av vs.length cv, .slice an ns.length cn, .int .i64 most]) own53 rfl rfl rfl rfl (rOrdCmp_c vs av bv ov cv ns an bn on cn most _ (hs.keep E319 (fun _ h => h)) (fun x hx => (hruns x hx).keep E319 (fun _ h => h)) (hn.keep E319 (fun _ h => h)) hv6 hsz.2 hokv hokn hthr hm5 hbm hefd) (fun v380 w381 r383 => ?_)
       rcases r383 with ⟨⟨aoOR, cOR, aoHR, cHR, rfl, hx1, hx2, hx3, hx4⟩ | ⟨aoOR, bOR, cOR, aoHR, bHR, cHR, rfl, hSO, hSH, hx0, hx1, hx2, hx3⟩, u382⟩
       ·
        have zu382 := u382.size
        have E384 := E319.next u382 (fun _ _ h => h.elim)
        have hy2 : ordA.length = 0 := by rw [hx2]; rfl
        have hy3 : hsA.length = 0 := by rw [hx3]; rfl
        refine t_alloc (cs := [.slice none 0 0, .slice none 0 0, .int .i64 0]) Try.zeroValue103 rfl rfl rfl (fun bk385 w386 ebk385 sbk385 B387 u388 => ?_)
        have zu388 := u388.size
        have E389 := E384.next u388 (fun _ _ h => h.elim)
        refine t_store (vs := [.slice aoOR 0 cOR, .slice aoHR 0 cHR, .int .i64 (-1)]) Try.sizeOf103 rfl rfl rfl B387 rfl rfl (Nat.le_of_ble_eq_true rfl) (by simp [Value.oneCell']) (fun w390 sw390 B392 u391 => ?_)
        have zu391 := u391.size
        have E393 := E389.next u391 (fun i hi (h : i = bk385) => show False by first | omega | assumption)
        have B392 : Blk w390 bk385 103 [.slice aoOR 0 cOR, .slice aoHR 0 cHR, .int .i64 (-1)] := B392
        refine t_nil' (hK379 _ _ (c_seq fun K394 hK394 => (c_seq fun K395 hK395 => (c_region (t_field Try.underlying103 rfl Try.sizeOf3 (2) rfl rfl rfl rfl (t_load Try.isAgg3 rfl rfl rfl (B392.get rfl) (t_cmp rfl rfl rfl rfl rfl (t_samehd (v := .bool true) rfl (t_same 106 (v := .bool true) rfl rfl (t_nil' (hK395 _ _ (c_cond_t rfl (c_seq fun K396 hK396 => (c_region (t_move rfl rfl rfl (t_cmp rfl rfl rfl rfl rfl (t_same 108 (v := .bool true) rfl (congrArg Value.bool (decide_eq_true (by omega))) (t_move rfl rfl rfl (t_move rfl rfl rfl (t_len Try.underlying27 rfl rfl rfl rfl (t_move rfl rfl rfl (t_len Try.underlying27 rfl rfl rfl rfl (t_ari rfl rfl rfl rfl rfl (by omega) ?_)))))))))))))))))))))))
        refine t_cmp rfl rfl rfl rfl rfl (t_same 115 (v := .bool true) rfl (congrArg Value.bool (decide_eq_true (by omega))) (t_pick_t rfl rfl rfl rfl (t_move rfl rfl rfl (t_move rfl rfl rfl (t_cmp rfl rfl rfl rfl rfl (t_same 119 (v := .bool true) rfl (congrArg Value.bool (decide_eq_true (by omega))) (t_pick_t rfl rfl rfl rfl (t_move rfl rfl rfl (t_call (vs := []) own16 rfl rfl rfl rfl (known_c _) (fun v397 w398 r400 => ?_))))))))))
        obtain ⟨rfl, u399⟩ := r400
        have zu399 := u399.size
        have E401 := E393.next u399 (fun _ _ h => h.elim)
        refine t_pick_t rfl rfl rfl rfl (t_assign rfl rfl rfl (t_nil' (hK396 _ _ (c_ret (f_ret1 (v := .bool true) Try.results13 rfl ?_)))))
        exact ⟨rfl, E401⟩
       ·
        have zu382 := u382.size
        have E402 := E319.next u382 (fun _ _ h => h.elim)
        refine t_alloc (cs := [.slice none 0 0, .slice none 0 0, .int .i64 0]) Try.zeroValue103 rfl rfl rfl (fun bk403 w404 ebk403 sbk403 B405 u406 => ?_)
        have zu406 := u406.size
        have E407 := E402.next u406 (fun _ _ h => h.elim)
        refine t_store (vs := [.slice aoOR (List.length ordA) cOR, .slice aoHR (List.length hsA) cHR, .int .i64 totA]) Try.sizeOf103 rfl rfl rfl B405 rfl rfl (Nat.le_of_ble_eq_true rfl) (by simp [Value.oneCell']) (fun w408 sw408 B410 u409 => ?_)
        have zu409 := u409.size
        have E411 := E407.next u409 (fun i hi (h : i = bk403) => show False by first | omega | assumption)
        have B410 : Blk w408 bk403 103 [.slice aoOR (List.length ordA) cOR, .slice aoHR (List.length hsA) cHR, .int .i64 totA] := B410
        refine t_nil' (hK379 _ _ (c_seq fun K412 hK412 => (c_seq fun K413 hK413 => (c_region (t_field Try.underlying103 rfl Try.sizeOf3 (2) rfl rfl rfl rfl (t_load Try.isAgg3 rfl rfl rfl (B410.get rfl) (t_cmp rfl rfl rfl rfl rfl (t_same 106 (v := .bool false) rfl (congrArg Value.bool (decide_eq_false (by omega))) (t_nil' (hK413 _ _ (c_cond_f rfl (c_skip (hK412 _ _ (c_seq fun K414 hK414 => (c_region (t_move rfl rfl rfl (t_cmp rfl rfl rfl rfl rfl (t_same 125 (v := .bool true) rfl (congrArg Value.bool (decide_eq_true (by omega))) (t_move rfl rfl rfl (t_move rfl rfl rfl (t_field Try.underlying103 rfl Try.sizeOf27 (0) rfl rfl rfl rfl (t_load Try.isAgg27 rfl rfl rfl (B410.get rfl) ?_))))))))))))))))))))))
        have D415 := ((((H303.1.keep u317 (fun _ h => h)).keep u382 (fun _ h => h)).keep u406 (fun _ h => h)).keep u409 (fun hp => by have hlt := (H303.1).lt hp; show ¬ (bA = bk403); omega))
        have D416 := ((hSO.keep u406 (fun _ h => h)).keep u409 (fun hp => by have hlt := (hSO).lt hp; show ¬ (bOR = bk403); omega))
        refine t_call (vs := [.slice aoA (List.length ordA) cpA, .slice aoOR (List.length ordA) cOR]) own21 rfl rfl rfl rfl (equal_c ordA aoA bA 0 cpA aoOR bOR 0 cOR _ D415 D416 (by omega)) (fun v417 w418 r420 => ?_)
        obtain ⟨rfl, u419⟩ := r420
        have zu419 := u419.size
        have E421 := E411.next u419 (fun _ _ h => h.elim)
        refine t_pick_t rfl rfl rfl rfl (t_move rfl rfl rfl (t_move rfl rfl rfl (t_field Try.underlying103 rfl Try.sizeOf27 (1) rfl rfl rfl rfl ?_)))
        have B422 := (B410.keep u419 (fun h => h))
        refine t_load Try.isAgg27 rfl rfl rfl (B422.get rfl) ?_
        have D423 := (((((H303.2.1.keep u317 (fun _ h => h)).keep u382 (fun _ h => h)).keep u406 (fun _ h => h)).keep u409 (fun hp => by have hlt := (H303.2.1).lt hp; show ¬ (bB = bk403); omega)).keep u419 (fun _ h => h))
        have D424 := (((hSH.keep u406 (fun _ h => h)).keep u409 (fun hp => by have hlt := (hSH).lt hp; show ¬ (bHR = bk403); omega)).keep u419 (fun _ h => h))
        refine t_call (vs := [.slice aoB (List.length hsA) cpB, .slice aoHR (List.length hsA) cHR]) own21 rfl rfl rfl rfl (equal_c hsA aoB bB 0 cpB aoHR bHR 0 cHR _ D423 D424 (by omega)) (fun v425 w426 r428 => ?_)
        obtain ⟨rfl, u427⟩ := r428
        have zu427 := u427.size
        have E429 := E421.next u427 (fun _ _ h => h.elim)
        refine t_pick_t rfl rfl rfl rfl (t_move rfl rfl rfl (t_move rfl rfl rfl (t_field Try.underlying103 rfl Try.sizeOf3 (2) rfl rfl rfl rfl ?_)))
        have B430 := (B422.keep u427 (fun h => h))
        refine t_load Try.isAgg3 rfl rfl rfl (B430.get rfl) (t_cmp rfl rfl rfl rfl rfl (t_samehd (v := .bool true) (by simp) (t_pick_t rfl rfl rfl rfl (t_move rfl rfl rfl (t_call (vs := []) own16 rfl rfl rfl rfl (known_c _) (fun v431 w432 r434 => ?_))))))
        obtain ⟨rfl, u433⟩ := r434
        have zu433 := u433.size
        have E435 := E429.next u433 (fun _ _ h => h.elim)
        refine t_pick_t rfl rfl rfl rfl (t_assign rfl rfl rfl (t_nil' (hK414 _ _ (c_ret (f_ret1 (v := .bool true) Try.results13 rfl ?_)))))
        exact ⟨rfl, E435⟩
  ·
   refine t_skip rfl rfl rfl (t_skip rfl rfl rfl (t_skip rfl rfl rfl (t_skip rfl rfl rfl (t_skip rfl rfl rfl (t_skip rfl rfl rfl (t_pick_f rfl rfl rfl rfl (t_nil' (hK321 _ _ (c_cond_f rfl (c_skip (hK320 _ _ (c_seq fun K436 hK436 => (c_seq fun K437 hK437 => (c_region (t_field Try.underlying37 rfl Try.sizeOf34 (0) rfl rfl rfl rfl ?_)))))))))))))))
   have B438 := (B314.keep u317 (fun h => h))
   refine t_load Try.isAgg34 rfl rfl rfl (B438.get rfl) (t_len Try.underlying34 rfl rfl rfl rfl (t_cmp rfl rfl rfl rfl rfl (t_nil' (hK437 _ _ (c_condp rfl (fun g77 => ?_) (fun g77 => ?_))))))
   ·
    refine c_region (t_assign rfl rfl rfl (t_nil' (hK436 _ _ (c_seq fun K439 hK439 => (c_seq fun K440 hK440 => (c_region (t_move rfl rfl rfl (t_cmp rfl rfl rfl rfl rfl (t_samehd (v := .bool true) rfl (t_nil' (hK440 _ _ (c_cond_t rfl (c_seq fun K441 hK441 => (c_region ?_))))))))))))))
    have hw : wantO (vs.map HVoy.v) ns most = 5 := by unfold wantO; rw [List.length_map]; (repeat' split) <;> omega
    obtain ⟨hx1, hx2, hx3, hx4⟩ := order_bad hOA (by omega)
    refine t_move rfl rfl rfl (t_move rfl rfl rfl (t_cmp rfl rfl rfl rfl rfl (t_same 82 (v := .bool true) rfl (congrArg Value.bool (decide_eq_true (by omega))) (t_move rfl rfl rfl (t_move rfl rfl rfl (t_len Try.underlying27 rfl rfl rfl rfl (t_move rfl rfl rfl (t_len Try.underlying27 rfl rfl rfl rfl (t_ari rfl rfl rfl rfl rfl (by omega) (t_cmp rfl rfl rfl rfl rfl (t_same 89 (v := .bool true) rfl (congrArg Value.bool (decide_eq_true (by omega))) (t_pick_t rfl rfl rfl rfl (t_move rfl rfl rfl (t_move rfl rfl rfl (t_cmp rfl rfl rfl rfl rfl (t_same 93 (v := .bool true) rfl (congrArg Value.bool (decide_eq_true (by omega))) (t_pick_t rfl rfl rfl rfl (t_move rfl rfl rfl (t_call (vs := []) own16 rfl rfl rfl rfl (known_c _) (fun v442 w443 r445 => ?_))))))))))))))))))))
    obtain ⟨rfl, u444⟩ := r445
    have zu444 := u444.size
    have E446 := E319.next u444 (fun _ _ h => h.elim)
    refine t_pick_t rfl rfl rfl rfl (t_assign rfl rfl rfl (t_nil' (hK441 _ _ (c_ret (f_ret1 (v := .bool true) Try.results13 rfl ?_)))))
    exact ⟨rfl, E446⟩
   ·
    refine c_skip (hK436 _ _ (c_seq fun K447 hK447 => (c_seq fun K448 hK448 => (c_region (t_move rfl rfl rfl (t_cmp rfl rfl rfl rfl rfl (t_nil' (hK448 _ _ (c_condp rfl (fun g79 => ?_) (fun g79 => ?_))))))))))
    ·
     refine c_seq fun K449 hK449 => (c_region ?_)
     have hw : wantO (vs.map HVoy.v) ns most = (OpenE (vs.map HVoy.v) ns) := by unfold wantO; rw [List.length_map]; (repeat' split) <;> omega
     obtain ⟨hx1, hx2, hx3, hx4⟩ := order_bad hOA (by omega)
     refine t_move rfl rfl rfl (t_move rfl rfl rfl (t_cmp rfl rfl rfl rfl rfl (t_same 82 (v := .bool true) rfl (congrArg Value.bool (decide_eq_true (by omega))) (t_move rfl rfl rfl (t_move rfl rfl rfl (t_len Try.underlying27 rfl rfl rfl rfl (t_move rfl rfl rfl (t_len Try.underlying27 rfl rfl rfl rfl (t_ari rfl rfl rfl rfl rfl (by omega) (t_cmp rfl rfl rfl rfl rfl (t_same 89 (v := .bool true) rfl (congrArg Value.bool (decide_eq_true (by omega))) (t_pick_t rfl rfl rfl rfl (t_move rfl rfl rfl (t_move rfl rfl rfl (t_cmp rfl rfl rfl rfl rfl (t_same 93 (v := .bool true) rfl (congrArg Value.bool (decide_eq_true (by omega))) (t_pick_t rfl rfl rfl rfl (t_move rfl rfl rfl (t_call (vs := []) own16 rfl rfl rfl rfl (known_c _) (fun v450 w451 r453 => ?_))))))))))))))))))))
     obtain ⟨rfl, u452⟩ := r453
     have zu452 := u452.size
     have E454 := E319.next u452 (fun _ _ h => h.elim)
     refine t_pick_t rfl rfl rfl rfl (t_assign rfl rfl rfl (t_nil' (hK449 _ _ (c_ret (f_ret1 (v := .bool true) Try.results13 rfl ?_)))))
     exact ⟨rfl, E454⟩
    ·
     have hE : OpenE (vs.map HVoy.v) ns = 0 := by omega
     have hm5 : 0 ≤ most ∧ most ≤ 5000 := by omega
     have hv6 : vs.length ≤ 6 := by omega
     have hsz := open_len hE
     have hto := thr_of_open hE
     have hokv : ∀ x ∈ vs, okVoy x.v = true := fun x hx => hto.1 x.v (List.mem_map.2 ⟨x, hx, rfl⟩)
     have hokn := hto.2.1
     have hthr : ∀ x ∈ vs, ∀ n ∈ ns, thrE x.v n = 0 := fun x hx => hto.2.2 x.v (List.mem_map.2 ⟨x, hx, rfl⟩)
     have hok2 := order_ok hOA (by rw [List.length_map]; exact hv6) hE hm5
     rw [List.length_map] at hok2
     refine c_skip (hK447 _ _ (c_seq fun K455 hK455 => (c_region (t_field Try.underlying37 rfl Try.sizeOf34 (0) rfl rfl rfl rfl (t_load Try.isAgg34 rfl rfl rfl (B438.get rfl) (t_field Try.underlying37 rfl Try.sizeOf35 (1) rfl rfl rfl rfl (t_load Try.isAgg35 rfl rfl rfl (B438.get rfl) (t_move rfl rfl rfl ?_))))))))
     obtain ⟨fd, hbm, hefd⟩ := hok2
     refine t_call (vs := [.slice av vs.length cv, .slice an ns.length cn, .int .i64 most]) own53 rfl rfl rfl rfl (rOrdCmp_c vs av bv ov cv ns an bn on cn most _ (hs.keep E319 (fun _ h => h)) (fun x hx => (hruns x hx).keep E319 (fun _ h => h)) (hn.keep E319 (fun _ h => h)) hv6 hsz.2 hokv hokn hthr hm5 hbm hefd) (fun v456 w457 r459 => ?_)
     rcases r459 with ⟨⟨aoOR, cOR, aoHR, cHR, rfl, hx1, hx2, hx3, hx4⟩ | ⟨aoOR, bOR, cOR, aoHR, bHR, cHR, rfl, hSO, hSH, hx0, hx1, hx2, hx3⟩, u458⟩
     ·
      have zu458 := u458.size
      have E460 := E319.next u458 (fun _ _ h => h.elim)
      have hy2 : ordA.length = 0 := by rw [hx2]; rfl
      have hy3 : hsA.length = 0 := by rw [hx3]; rfl
      refine t_alloc (cs := [.slice none 0 0, .slice none 0 0, .int .i64 0]) Try.zeroValue103 rfl rfl rfl (fun bk461 w462 ebk461 sbk461 B463 u464 => ?_)
      have zu464 := u464.size
      have E465 := E460.next u464 (fun _ _ h => h.elim)
      refine t_store (vs := [.slice aoOR 0 cOR, .slice aoHR 0 cHR, .int .i64 (-1)]) Try.sizeOf103 rfl rfl rfl B463 rfl rfl (Nat.le_of_ble_eq_true rfl) (by simp [Value.oneCell']) (fun w466 sw466 B468 u467 => ?_)
      have zu467 := u467.size
      have E469 := E465.next u467 (fun i hi (h : i = bk461) => show False by first | omega | assumption)
      have B468 : Blk w466 bk461 103 [.slice aoOR 0 cOR, .slice aoHR 0 cHR, .int .i64 (-1)] := B468
      refine t_nil' (hK455 _ _ (c_seq fun K470 hK470 => (c_seq fun K471 hK471 => (c_region (t_field Try.underlying103 rfl Try.sizeOf3 (2) rfl rfl rfl rfl (t_load Try.isAgg3 rfl rfl rfl (B468.get rfl) (t_cmp rfl rfl rfl rfl rfl (t_samehd (v := .bool true) rfl (t_same 106 (v := .bool true) rfl rfl (t_nil' (hK471 _ _ (c_cond_t rfl (c_seq fun K472 hK472 => (c_region (t_move rfl rfl rfl (t_cmp rfl rfl rfl rfl rfl (t_same 108 (v := .bool true) rfl (congrArg Value.bool (decide_eq_true (by omega))) (t_move rfl rfl rfl (t_move rfl rfl rfl (t_len Try.underlying27 rfl rfl rfl rfl (t_move rfl rfl rfl (t_len Try.underlying27 rfl rfl rfl rfl (t_ari rfl rfl rfl rfl rfl (by omega) ?_)))))))))))))))))))))))
      refine t_cmp rfl rfl rfl rfl rfl (t_same 115 (v := .bool true) rfl (congrArg Value.bool (decide_eq_true (by omega))) (t_pick_t rfl rfl rfl rfl (t_move rfl rfl rfl (t_move rfl rfl rfl (t_cmp rfl rfl rfl rfl rfl (t_same 119 (v := .bool true) rfl (congrArg Value.bool (decide_eq_true (by omega))) (t_pick_t rfl rfl rfl rfl (t_move rfl rfl rfl (t_call (vs := []) own16 rfl rfl rfl rfl (known_c _) (fun v473 w474 r476 => ?_))))))))))
      obtain ⟨rfl, u475⟩ := r476
      have zu475 := u475.size
      have E477 := E469.next u475 (fun _ _ h => h.elim)
      refine t_pick_t rfl rfl rfl rfl (t_assign rfl rfl rfl (t_nil' (hK472 _ _ (c_ret (f_ret1 (v := .bool true) Try.results13 rfl ?_)))))
      exact ⟨rfl, E477⟩
     ·
      have zu458 := u458.size
      have E478 := E319.next u458 (fun _ _ h => h.elim)
      refine t_alloc (cs := [.slice none 0 0, .slice none 0 0, .int .i64 0]) Try.zeroValue103 rfl rfl rfl (fun bk479 w480 ebk479 sbk479 B481 u482 => ?_)
      have zu482 := u482.size
      have E483 := E478.next u482 (fun _ _ h => h.elim)
      refine t_store (vs := [.slice aoOR (List.length ordA) cOR, .slice aoHR (List.length hsA) cHR, .int .i64 totA]) Try.sizeOf103 rfl rfl rfl B481 rfl rfl (Nat.le_of_ble_eq_true rfl) (by simp [Value.oneCell']) (fun w484 sw484 B486 u485 => ?_)
      have zu485 := u485.size
      have E487 := E483.next u485 (fun i hi (h : i = bk479) => show False by first | omega | assumption)
      have B486 : Blk w484 bk479 103 [.slice aoOR (List.length ordA) cOR, .slice aoHR (List.length hsA) cHR, .int .i64 totA] := B486
      refine t_nil' (hK455 _ _ (c_seq fun K488 hK488 => (c_seq fun K489 hK489 => (c_region (t_field Try.underlying103 rfl Try.sizeOf3 (2) rfl rfl rfl rfl (t_load Try.isAgg3 rfl rfl rfl (B486.get rfl) (t_cmp rfl rfl rfl rfl rfl (t_same 106 (v := .bool false) rfl (congrArg Value.bool (decide_eq_false (by omega))) (t_nil' (hK489 _ _ (c_cond_f rfl (c_skip (hK488 _ _ (c_seq fun K490 hK490 => (c_region (t_move rfl rfl rfl (t_cmp rfl rfl rfl rfl rfl (t_same 125 (v := .bool true) rfl (congrArg Value.bool (decide_eq_true (by omega))) (t_move rfl rfl rfl (t_move rfl rfl rfl (t_field Try.underlying103 rfl Try.sizeOf27 (0) rfl rfl rfl rfl (t_load Try.isAgg27 rfl rfl rfl (B486.get rfl) ?_))))))))))))))))))))))
      have D491 := ((((H303.1.keep u317 (fun _ h => h)).keep u458 (fun _ h => h)).keep u482 (fun _ h => h)).keep u485 (fun hp => by have hlt := (H303.1).lt hp; show ¬ (bA = bk479); omega))
      have D492 := ((hSO.keep u482 (fun _ h => h)).keep u485 (fun hp => by have hlt := (hSO).lt hp; show ¬ (bOR = bk479); omega))
      refine t_call (vs := [.slice aoA (List.length ordA) cpA, .slice aoOR (List.length ordA) cOR]) own21 rfl rfl rfl rfl (equal_c ordA aoA bA 0 cpA aoOR bOR 0 cOR _ D491 D492 (by omega)) (fun v493 w494 r496 => ?_)
      obtain ⟨rfl, u495⟩ := r496
      have zu495 := u495.size
      have E497 := E487.next u495 (fun _ _ h => h.elim)
      refine t_pick_t rfl rfl rfl rfl (t_move rfl rfl rfl (t_move rfl rfl rfl (t_field Try.underlying103 rfl Try.sizeOf27 (1) rfl rfl rfl rfl ?_)))
      have B498 := (B486.keep u495 (fun h => h))
      refine t_load Try.isAgg27 rfl rfl rfl (B498.get rfl) ?_
      have D499 := (((((H303.2.1.keep u317 (fun _ h => h)).keep u458 (fun _ h => h)).keep u482 (fun _ h => h)).keep u485 (fun hp => by have hlt := (H303.2.1).lt hp; show ¬ (bB = bk479); omega)).keep u495 (fun _ h => h))
      have D500 := (((hSH.keep u482 (fun _ h => h)).keep u485 (fun hp => by have hlt := (hSH).lt hp; show ¬ (bHR = bk479); omega)).keep u495 (fun _ h => h))
      refine t_call (vs := [.slice aoB (List.length hsA) cpB, .slice aoHR (List.length hsA) cHR]) own21 rfl rfl rfl rfl (equal_c hsA aoB bB 0 cpB aoHR bHR 0 cHR _ D499 D500 (by omega)) (fun v501 w502 r504 => ?_)
      obtain ⟨rfl, u503⟩ := r504
      have zu503 := u503.size
      have E505 := E497.next u503 (fun _ _ h => h.elim)
      refine t_pick_t rfl rfl rfl rfl (t_move rfl rfl rfl (t_move rfl rfl rfl (t_field Try.underlying103 rfl Try.sizeOf3 (2) rfl rfl rfl rfl ?_)))
      have B506 := (B498.keep u503 (fun h => h))
      refine t_load Try.isAgg3 rfl rfl rfl (B506.get rfl) (t_cmp rfl rfl rfl rfl rfl (t_samehd (v := .bool true) (by simp) (t_pick_t rfl rfl rfl rfl (t_move rfl rfl rfl (t_call (vs := []) own16 rfl rfl rfl rfl (known_c _) (fun v507 w508 r510 => ?_))))))
      obtain ⟨rfl, u509⟩ := r510
      have zu509 := u509.size
      have E511 := E505.next u509 (fun _ _ h => h.elim)
      refine t_pick_t rfl rfl rfl rfl (t_assign rfl rfl rfl (t_nil' (hK490 _ _ (c_ret (f_ret1 (v := .bool true) Try.results13 rfl ?_)))))
      exact ⟨rfl, E511⟩

end Go.Proofs.Ytmicjleiheoieaa
