/-
  The law TowHeld returns true. Conditions: none.
-/
import Derived.Test.YtmicjleiheoieaaA13
import Derived.Test.YtmicjleiheoieaaA42
namespace Go.Proofs.Ytmicjleiheoieaa
open Go Go.RowKit

theorem own15 : Own Try.prog 15 := ⟨Try.f15, Try.func15, by kernel_rfl, by kernel_rfl⟩
theorem own55 : Own Try.prog 55 := ⟨Try.f55, Try.func55, by kernel_rfl, by kernel_rfl⟩

theorem later_c (v : Voy) (ao : Option Addr) (b o cap : Nat) (q : Int) (w0 : World) (hs : Sl encRun 6 w0 ao b o v.runs) (hl : v.runs.length ≤ 1000000) (hb : (0 ≤ v.st.lo ∧ v.st.lo ≤ 1000000) ∧ (0 ≤ v.st.hi ∧ v.st.hi ≤ 1000000)) (hq : -1 ≤ q ∧ q ≤ 1000) :
    CallsV Try.prog 55 [.agg #[.int .i64 v.st.lo, .int .i64 v.st.hi, .slice ao ((v.runs).length) cap, .int .i64 v.len, .int .i64 v.wid], .int .i64 q] w0 (fun x w' => (∃ ao' b' cap', x = .agg #[.int .i64 (v.st.lo + q), .int .i64 (v.st.hi + q), .slice ao' v.runs.length cap', .int .i64 v.len, .int .i64 v.wid] ∧ Sl encRun 6 w' ao' b' 0 v.runs ∧ w0.heap.size ≤ b') ∧ Ext w0 w') := by
 have E0 := Upd.refl (fun _ => False) w0
 refine f_enter (N := 20) Try.func55 rfl rfl rfl ?_
 change WC _ _ _ _ _ _ [(0, .agg #[.int .i64 v.st.lo, .int .i64 v.st.hi, .slice ao ((v.runs).length) cap, .int .i64 v.len, .int .i64 v.wid]), (1, .int .i64 q)] _
 refine c_seq fun K1 hK1 => (c_region (t_box (cs := [.int .i64 v.st.lo, .int .i64 v.st.hi, .slice ao ((v.runs).length) cap, .int .i64 v.len, .int .i64 v.wid]) rfl rfl rfl rfl (fun bk2 w3 ebk2 sbk2 B4 u5 => ?_)))
 have zu5 := u5.size
 have E6 := E0.next u5 (fun _ _ h => h.elim)
 refine t_alloc (cs := [.int .i64 0, .int .i64 0, .slice none 0 0, .int .i64 0, .int .i64 0]) Try.zeroValue48 rfl rfl rfl (fun bk7 w8 ebk7 sbk7 B9 u10 => ?_)
 have zu10 := u10.size
 have E11 := E6.next u10 (fun _ _ h => h.elim)
 refine t_nil' (hK1 _ _ (c_seq fun K12 hK12 => (c_region ?_)))
 have B13 := (B4.keep u10 (fun h => h))
 refine t_loadN (vs := [.int .i64 v.st.lo, .int .i64 v.st.hi, .slice ao ((v.runs).length) cap, .int .i64 v.len, .int .i64 v.wid]) Try.isAgg48 Try.sizeOf48 rfl rfl rfl (B13.at.sub 0 5) rfl (t_call (vs := [.agg #[.int .i64 v.st.lo, .int .i64 v.st.hi, .slice ao ((v.runs).length) cap, .int .i64 v.len, .int .i64 v.wid]]) own28 rfl rfl rfl rfl (copied_c v ao b o cap _ (hs.keep E11 (fun _ h => h)) (by omega)) (fun v15 w16 r18 => ?_))
 obtain ⟨⟨aoC14, bC14, cpC14, rfl, hC14, gebC14⟩, u17⟩ := r18
 have zu17 := u17.size
 have E19 := E11.next u17 (fun _ _ h => h.elim)
 have B20 := (B13.keep u17 (fun h => h))
 refine t_store (vs := [.int .i64 v.st.lo, .int .i64 v.st.hi, .slice aoC14 ((v.runs).length) cpC14, .int .i64 v.len, .int .i64 v.wid]) Try.sizeOf48 rfl rfl rfl B20 rfl rfl (Nat.le_of_ble_eq_true rfl) (by simp [Value.oneCell']) (fun w21 sw21 B23 u22 => ?_)
 have zu22 := u22.size
 have E24 := E19.next u22 (fun i hi (h : i = bk2) => show False by first | omega | assumption)
 have B23 : Blk w21 bk2 48 [.int .i64 v.st.lo, .int .i64 v.st.hi, .slice aoC14 ((v.runs).length) cpC14, .int .i64 v.len, .int .i64 v.wid] := B23
 refine t_nil' (hK12 _ _ (c_seq fun K25 hK25 => (c_region (t_field Try.underlying48 rfl Try.sizeOf45 (0) rfl rfl rfl rfl (t_field Try.underlying45 rfl Try.sizeOf3 (0) rfl rfl rfl rfl (t_load Try.isAgg3 rfl rfl rfl (B23.get rfl) (t_move rfl rfl rfl (t_ari rfl rfl rfl rfl rfl (by omega) (t_field Try.underlying48 rfl Try.sizeOf45 (0) rfl rfl rfl rfl (t_field Try.underlying45 rfl Try.sizeOf3 (1) rfl rfl rfl rfl (t_load Try.isAgg3 rfl rfl rfl (B23.get rfl) (t_move rfl rfl rfl (t_ari rfl rfl rfl rfl rfl (by omega) (t_build (ps := [(0, .int .i64 (v.st.lo + q)), (1, .int .i64 (v.st.hi + q))]) (v := .agg #[.int .i64 (v.st.lo + q), .int .i64 (v.st.hi + q)]) rfl rfl ⟨rfl, rfl⟩ (fun w => by kernel_rfl) (t_field Try.underlying48 rfl Try.sizeOf45 (0) rfl rfl rfl rfl (t_store (vs := [.int .i64 (v.st.lo + q), .int .i64 (v.st.hi + q)]) Try.sizeOf45 rfl rfl rfl B23 rfl rfl (Nat.le_of_ble_eq_true rfl) (by simp [Value.oneCell']) (fun w26 sw26 B28 u27 => ?_)))))))))))))))))
 have zu27 := u27.size
 have E29 := E24.next u27 (fun i hi (h : i = bk2) => show False by first | omega | assumption)
 have B28 : Blk w26 bk2 48 [.int .i64 (v.st.lo + q), .int .i64 (v.st.hi + q), .slice aoC14 ((v.runs).length) cpC14, .int .i64 v.len, .int .i64 v.wid] := B28
 refine t_nil' (hK25 _ _ (c_seq fun K30 hK30 => (c_region (t_loadN (vs := [.int .i64 (v.st.lo + q), .int .i64 (v.st.hi + q), .slice aoC14 ((v.runs).length) cpC14, .int .i64 v.len, .int .i64 v.wid]) Try.isAgg48 Try.sizeOf48 rfl rfl rfl (B28.at.sub 0 5) rfl ?_))))
 have B31 := (((B9.keep u17 (fun h => h)).keep u22 (show ¬ (bk7 = bk2) by first | omega | assumption)).keep u27 (show ¬ (bk7 = bk2) by first | omega | assumption))
 refine t_store (vs := [.int .i64 (v.st.lo + q), .int .i64 (v.st.hi + q), .slice aoC14 ((v.runs).length) cpC14, .int .i64 v.len, .int .i64 v.wid]) Try.sizeOf48 rfl rfl rfl B31 rfl rfl (Nat.le_of_ble_eq_true rfl) (by simp [Value.oneCell']) (fun w32 sw32 B34 u33 => ?_)
 have zu33 := u33.size
 have E35 := E29.next u33 (fun i hi (h : i = bk7) => show False by first | omega | assumption)
 have B34 : Blk w32 bk7 48 [.int .i64 (v.st.lo + q), .int .i64 (v.st.hi + q), .slice aoC14 ((v.runs).length) cpC14, .int .i64 v.len, .int .i64 v.wid] := B34
 refine t_nil' (hK30 _ _ (c_ret (f_ret1 (v := .agg #[.int .i64 (v.st.lo + q), .int .i64 (v.st.hi + q), .slice aoC14 ((v.runs).length) cpC14, .int .i64 v.len, .int .i64 v.wid]) Try.results55 ⟨_, _, rfl, run_loadVarN (vs := [.int .i64 (v.st.lo + q), .int .i64 (v.st.hi + q), .slice aoC14 ((v.runs).length) cpC14, .int .i64 v.len, .int .i64 v.wid]) Try.isAgg48 Try.sizeOf48 rfl (B34.at.sub 0 5)⟩ ?_)))
 have D36 := (((hC14.keep u22 (fun hp => by have hlt := hC14.lt hp; show ¬ (bC14 = bk2); first | omega | assumption)).keep u27 (fun hp => by have hlt := hC14.lt hp; show ¬ (bC14 = bk2); first | omega | assumption)).keep u33 (fun hp => by have hlt := hC14.lt hp; show ¬ (bC14 = bk7); first | omega | assumption))
 exact ⟨⟨_, bC14, _, rfl, D36, by omega⟩, E35⟩


theorem held_runs {vs us : List HVoy} {ls : List Int} {k : Nat} (h : us.map HVoy.v = heldL (vs.map HVoy.v) ls k) (hr : ∀ x ∈ vs, x.v.runs.length ≤ 1000000) (hk : k ≤ vs.length) : ∀ x ∈ us, x.v.runs.length ≤ 1000000 := fun x hx => by
  have h1 : x.v ∈ heldL (vs.map HVoy.v) ls k := by rw [← h]; exact List.mem_map.2 ⟨x, hx, rfl⟩
  obtain ⟨j, hj, e⟩ := List.mem_map.1 h1
  rw [← e, nth_mapv]
  have : j < k := by simpa using hj
  exact hr _ (nth_mem (by omega))

set_option maxHeartbeats 4000000 in
theorem TowHeld_c (vs : List HVoy) (av : Option Addr) (bv ov cv : Nat) (ns : List Nar) (an : Option Addr) (bn on cn : Nat) (most : Int) (w0 : World) (hs : Sl encHVoy 5 w0 av bv ov vs) (hruns : ∀ x ∈ vs, Sl encRun 6 w0 x.ao x.b x.o x.v.runs) (hn : Sl encNar 4 w0 an bn on ns) (hvl : vs.length ≤ 9223372036854775807) (hnl : ns.length ≤ 9223372036854775807) (hmost : 0 ≤ most ∧ most ≤ 255) :
    CallsV Try.prog 15 [.agg #[.slice av vs.length cv, .slice an ns.length cn], .int .u8 most] w0 (fun v w' => v = .bool true ∧ Ext w0 w') := by
 have E0 := Upd.refl (fun _ => False) w0
 refine f_enter (N := 229) Try.func15 rfl rfl rfl ?_
 change WC _ _ _ _ _ _ [(0, .agg #[.slice av vs.length cv, .slice an ns.length cn]), (1, .int .u8 most)] _
 refine c_seq fun K1 hK1 => (c_region (t_box (cs := [.slice av vs.length cv, .slice an ns.length cn]) rfl rfl rfl rfl (fun bk2 w3 ebk2 sbk2 B4 u5 => ?_)))
 have zu5 := u5.size
 have E6 := E0.next u5 (fun _ _ h => h.elim)
 refine t_assign rfl rfl rfl (t_nil' (hK1 _ _ (c_seq fun K7 hK7 => (c_seq fun K8 hK8 => (c_region (t_loadN (vs := [.slice av vs.length cv, .slice an ns.length cn]) Try.isAgg37 Try.sizeOf37 rfl rfl rfl (B4.at.sub 0 2) rfl (t_call (vs := [.agg #[.slice av vs.length cv, .slice an ns.length cn]]) own22 rfl rfl rfl rfl (large_c vs av bv ov cv ns an bn on cn _ (hs.keep E6 (fun _ h => h)) (fun x hx => (hruns x hx).keep E6 (fun _ h => h)) (hn.keep E6 (fun _ h => h)) (by omega) (by omega)) (fun v9 w10 r12 => ?_))))))))
 obtain ⟨rfl, u11⟩ := r12
 have zu11 := u11.size
 have E13 := E6.next u11 (fun _ _ h => h.elim)
 refine t_move rfl rfl rfl (t_split 20 rfl (fun g20 => ?_) (fun g20 => ?_))
 ·
  refine t_skip rfl rfl rfl (t_skip rfl rfl rfl (t_skip rfl rfl rfl (t_skip rfl rfl rfl (t_pick_t rfl rfl rfl rfl (t_nil' (hK8 _ _ (c_cond_t rfl (c_seq fun K14 hK14 => (c_region (t_call (vs := []) own16 rfl rfl rfl rfl (known_c _) (fun v15 w16 r18 => ?_)))))))))))
  obtain ⟨rfl, u17⟩ := r18
  have zu17 := u17.size
  have E19 := E13.next u17 (fun _ _ h => h.elim)
  refine t_assign rfl rfl rfl (t_nil' (hK14 _ _ (c_ret (f_ret1 (v := .bool true) Try.results15 rfl ?_))))
  exact ⟨rfl, E19⟩
 ·
  have hno : lrgB vs ns = false := by simpa using g20
  have hlr := lrg_no hno
  have hrl : ∀ x ∈ vs, x.v.runs.length ≤ 1000000 := fun x hx => Nat.le_trans (hlr.1 x hx) (by decide)
  have hvl2 : (vs.map HVoy.v).length ≤ 1000000 := by rw [List.length_map]; omega
  have hrl2 : ∀ v ∈ (vs.map HVoy.v), v.runs.length ≤ 1000000 := fun v hv => by obtain ⟨x, hx, rfl⟩ := List.mem_map.1 hv; exact hrl x hx
  refine t_field Try.underlying37 rfl Try.sizeOf34 (0) rfl rfl rfl rfl ?_
  have B20 := (B4.keep u11 (fun h => h))
  refine t_load Try.isAgg34 rfl rfl rfl (B20.get rfl) (t_len Try.underlying34 rfl rfl rfl rfl (t_cmp rfl rfl rfl rfl rfl (t_pick_f rfl rfl rfl rfl (t_nil' (hK8 _ _ (c_condp rfl (fun g25 => ?_) (fun g25 => ?_)))))))
  ·
   refine c_seq fun K21 hK21 => (c_region (t_call (vs := []) own16 rfl rfl rfl rfl (known_c _) (fun v22 w23 r25 => ?_)))
   obtain ⟨rfl, u24⟩ := r25
   have zu24 := u24.size
   have E26 := E13.next u24 (fun _ _ h => h.elim)
   refine t_assign rfl rfl rfl (t_nil' (hK21 _ _ (c_ret (f_ret1 (v := .bool true) Try.results15 rfl ?_))))
   exact ⟨rfl, E26⟩
  ·
   refine c_skip (hK7 _ _ (c_seq fun K27 hK27 => (c_seq fun K28 hK28 => (c_region (t_assign rfl rfl rfl (t_nil' (hK28 _ _ (c_block (c_loop (γ := Nat) (fun k => [(1, .int .u8 most), (2, .pointer (some ⟨bk2, 0, none⟩)), (5, .int .i64 (k : Int))]) (fun k w => Upd (fun _ => False) w10 w ∧ (k ≤ vs.length) ∧ (∀ x ∈ vs.take k, 0 ≤ x.v.st.lo ∧ x.v.st.hi ≤ 997000)) (fun k => vs.length - k) 0 ⟨rfl, rfl, rfl, trivial⟩ ⟨Upd.refl _ _, (Nat.zero_le _), (fun x hx => by cases hx)⟩ ?_)))))))))
   intro k w30 hW K29 hK29
   obtain ⟨u31, I32, I33⟩ := hW
   have zu31 := u31.size
   have E34 := E13.next u31 (fun _ _ h => h.elim)
   have hk := I32; clear I32
   have hin0 := I33; clear I33
   refine c_seq fun K35 hK35 => (c_seq fun K36 hK36 => (c_region (t_move rfl rfl rfl (t_field Try.underlying37 rfl Try.sizeOf34 (0) rfl rfl rfl rfl ?_))))
   have B37 := (B20.keep u31 (fun h => h))
   refine t_load Try.isAgg34 rfl rfl rfl (B37.get rfl) (t_len Try.underlying34 rfl rfl rfl rfl (t_cmp rfl rfl rfl rfl rfl (t_nil' (hK36 _ _ (c_condp rfl (fun g31 => ?_) (fun g31 => ?_))))))
   ·
    refine c_skip (hK35 _ _ (c_seq fun K38 hK38 => (c_block (c_seq fun K39 hK39 => (c_region (t_field Try.underlying37 rfl Try.sizeOf34 (0) rfl rfl rfl rfl (t_load Try.isAgg34 rfl rfl rfl (B37.get rfl) (t_move rfl rfl rfl ?_))))))))
    have i40 : k < vs.length := (by omega)
    refine t_index (j := k) Try.underlying34 Try.sizeOf48 rfl rfl rfl rfl ((hs.keep E34 (fun _ h => h)).addr (by omega)) rfl i40 (t_loadN (vs := [.int .i64 ((nth vs k).v.st.lo), .int .i64 ((nth vs k).v.st.hi), .slice ((nth vs k).ao) (((nth vs k).v.runs).length) ((nth vs k).cap), .int .i64 ((nth vs k).v.len), .int .i64 ((nth vs k).v.wid)]) Try.isAgg48 Try.sizeOf48 rfl rfl rfl (((hs.keep E34 (fun _ h => h)).at_ k (by omega)).sub 0 5) rfl (t_alloc (cs := [.int .i64 0, .int .i64 0, .slice none 0 0, .int .i64 0, .int .i64 0]) Try.zeroValue48 rfl rfl rfl (fun bk41 w42 ebk41 sbk41 B43 u44 => ?_)))
    have zu44 := u44.size
    have E45 := E34.next u44 (fun _ _ h => h.elim)
    refine t_store (vs := [.int .i64 ((nth vs k).v.st.lo), .int .i64 ((nth vs k).v.st.hi), .slice ((nth vs k).ao) (((nth vs k).v.runs).length) ((nth vs k).cap), .int .i64 ((nth vs k).v.len), .int .i64 ((nth vs k).v.wid)]) Try.sizeOf48 rfl rfl rfl B43 rfl rfl (Nat.le_of_ble_eq_true rfl) (by simp [Value.oneCell']) (fun w46 sw46 B48 u47 => ?_)
    have zu47 := u47.size
    have E49 := E45.next u47 (fun i hi (h : i = bk41) => show False by first | omega | assumption)
    have B48 : Blk w46 bk41 48 [.int .i64 ((nth vs k).v.st.lo), .int .i64 ((nth vs k).v.st.hi), .slice ((nth vs k).ao) (((nth vs k).v.runs).length) ((nth vs k).cap), .int .i64 ((nth vs k).v.len), .int .i64 ((nth vs k).v.wid)] := B48
    refine t_nil' (hK39 _ _ (c_seq fun K50 hK50 => (c_region (t_field Try.underlying48 rfl Try.sizeOf45 (0) rfl rfl rfl rfl (t_field Try.underlying45 rfl Try.sizeOf3 (0) rfl rfl rfl rfl (t_load Try.isAgg3 rfl rfl rfl (B48.get rfl) (t_cmp rfl rfl rfl rfl rfl (t_move rfl rfl rfl (t_splitp 43 rfl (fun g43 => ?_) (fun g43 => ?_))))))))))
    ·
     refine t_skip rfl rfl rfl (t_skip rfl rfl rfl (t_skip rfl rfl rfl (t_skip rfl rfl rfl (t_pick_t rfl rfl rfl rfl (t_nil' (hK50 _ _ (c_cond_t rfl (c_seq fun K51 hK51 => (c_region (t_call (vs := []) own16 rfl rfl rfl rfl (known_c _) (fun v52 w53 r55 => ?_)))))))))))
     obtain ⟨rfl, u54⟩ := r55
     have zu54 := u54.size
     have E56 := E49.next u54 (fun _ _ h => h.elim)
     refine t_assign rfl rfl rfl (t_nil' (hK51 _ _ (c_ret (f_ret1 (v := .bool true) Try.results15 rfl ?_))))
     exact ⟨rfl, E56⟩
    ·
     refine t_field Try.underlying48 rfl Try.sizeOf45 (0) rfl rfl rfl rfl (t_field Try.underlying45 rfl Try.sizeOf3 (1) rfl rfl rfl rfl (t_load Try.isAgg3 rfl rfl rfl (B48.get rfl) (t_cmp rfl rfl rfl rfl rfl (t_pick_f rfl rfl rfl rfl (t_nil' (hK50 _ _ (c_condp rfl (fun g48 => ?_) (fun g48 => ?_))))))))
     ·
      refine c_seq fun K57 hK57 => (c_region (t_call (vs := []) own16 rfl rfl rfl rfl (known_c _) (fun v58 w59 r61 => ?_)))
      obtain ⟨rfl, u60⟩ := r61
      have zu60 := u60.size
      have E62 := E49.next u60 (fun _ _ h => h.elim)
      refine t_assign rfl rfl rfl (t_nil' (hK57 _ _ (c_ret (f_ret1 (v := .bool true) Try.results15 rfl ?_))))
      exact ⟨rfl, E62⟩
     ·
      refine c_skip (hK38 _ _ (c_region (t_move rfl rfl rfl (t_ari rfl rfl rfl rfl rfl (by omega) (t_assign rfl rfl rfl (t_nil' ?_))))))
      exact hK29 (k + 1) _ _ (by omega) ⟨rfl, rfl, rfl, trivial⟩ ⟨((u31.next u44 (fun _ _ h => h.elim)).next u47 (fun i hi (h : i = bk41) => show False by first | omega | assumption)), (by omega), (fun x hx => by
        rw [take_nth (by omega)] at hx
        rcases List.mem_append.1 hx with h | h
        · exact hin0 x h
        · rw [List.mem_singleton.1 h]; omega)⟩
   ·
    have hin : ∀ x ∈ vs, 0 ≤ x.v.st.lo ∧ x.v.st.hi ≤ 997000 := by rw [List.take_of_length_le (by omega)] at hin0; exact hin0
    refine c_exit (hK27 _ _ (c_seq fun K63 hK63 => (WC.weak [(1, .int .u8 most), (2, .pointer (some ⟨bk2, 0, none⟩))] ⟨rfl, rfl, trivial⟩ (c_drawn follows 16 [some (51, some (.pointer (some ⟨bk2, 0, none⟩))), some (52, some (.slice av vs.length cv)), some (53, none), some (54, some (.pointer (some ⟨bk2, 1, none⟩))), some (55, some (.slice an ns.length cn)), some (56, none), some (57, some (.int .u8 most)), some (58, some (.int .i64 most)), some (59, none), some (50, none), some (60, none), some (61, none), some (62, none), some (7, none), some (8, none), some (9, none)] [[],[0],[1],[],[3],[4,2],[],[6],[2,5,7,5],[8],[9],[9],[9],[10,8,0,1,2,3,4,5,6,7,8,9,10],[11,13,0,1,2,3,4,5,6,7,8,9,10,11,13],[12,14,0,1,2,3,4,5,6,7,8,9,10,11,12,13,14]] (fun D ρ w => Upd (fun _ => False) w30 w ∧ (D 2 = true → ∃ us1 bU1 cpU1 bsU1 lmU1, ρ 2 = .slice (some ⟨bU1, 0, none⟩) us1.length cpU1 ∧ (D 8 = false → (us1.map HVoy.v = (vs.map HVoy.v) ∧ w30.heap.size ≤ bsU1 ∧ bsU1 ≤ bU1 ∧ lmU1 ≤ w.heap.size ∧ Acc encHVoy 5 48 bsU1 w (some ⟨bU1, 0, none⟩) bU1 cpU1 us1 ∧ Fam encRun 6 HVoy.ao HVoy.b HVoy.o (fun x : HVoy => x.v.runs) bsU1 bU1 lmU1 us1 w))) ∧ (D 5 = true → ∃ aoN bN cpN, ρ 5 = .slice aoN ns.length cpN ∧ (D 8 = false → Sl encNar 4 w aoN bN 0 ns)) ∧ (D 8 = true → ∃ ls atA eA aoA bA cpA, ρ 8 = .tuple #[.slice aoA ls.length cpA, .int .i64 atA, .int .i64 eA] ∧ (Sl encI 1 w aoA bA 0 ls ∧ HoldsA (vs.map HVoy.v) ns most ls atA eA) ∧ (D 9 = true → ρ 9 = .tuple #[.slice aoA ls.length cpA, .int .i64 atA, .int .i64 eA]) ∧ (D 10 = true → ρ 10 = .slice aoA ls.length cpA) ∧ (D 11 = true → ρ 11 = .int .i64 atA) ∧ (D 12 = true → ρ 12 = .int .i64 eA) ∧ (D 13 = true → ρ 13 = .slice aoA ls.length cpA) ∧ (D 14 = true → ρ 14 = .int .i64 atA) ∧ (D 15 = true → ρ 15 = .int .i64 eA))) rfl rfl rfl (by kernel_rfl) (by kernel_rfl) ⟨(Upd.drew _).to, (fun h => by cases h), (fun h => by cases h), (fun h => by cases h)⟩ ⟨?_, ?_, ?_, ?_, ?_, ?_, ?_, ?_, ?_, ?_, ?_, ?_, ?_, ?_, ?_, ?_, trivial⟩ ?_))))
    · exact pzf Try.underlying37 rfl Try.sizeOf34 (0) rfl rfl rfl rfl rfl fun _ _ _ h => h
    · exact fun D ρ w82 hcD hnD hdD hW => ⟨_, kf_fr [51], fun Lr => t_load Try.isAgg34 rfl rfl rfl ((B37.keep hW.1 (fun h => h)).get rfl) (dz rfl hW)⟩
    ·
     intro D ρ w89 hcD hnD hdD hW
     obtain ⟨u90, F91, F92, F93⟩ := hW
     have zu90 := u90.size
     have E94 := E34.next u90 (fun _ _ h => h.elim)
     refine ⟨_, kf_fr [52], fun Lr => ?_⟩
     refine t_call (vs := [.slice av vs.length cv]) own24 rfl rfl rfl rfl (allA_c vs av bv ov cv _ (hs.keep E94 (fun _ h => h)) (fun x hx => (hruns x hx).keep E94 (fun _ h => h)) (by omega) hrl) (fun v95 w96 r98 => ?_)
     obtain ⟨⟨us1, bU1, cpU1, bsU1, rfl, mpX1, acX1, fmX1, loX1, bbX1⟩, u97⟩ := r98
     have zu97 := u97.size
     exact dzn rfl ⟨(u90.next u97 (fun _ _ h => h.elim)), (fun _ => ⟨us1, bU1, cpU1, bsU1, w96.heap.size, rfl, fun _ => ⟨mpX1, by omega, bbX1, Nat.le_refl _, acX1, fmX1⟩⟩), (fun h => absurd ((hcD.late 5 hnD rfl).symm.trans h) (by decide)), (fun h => absurd ((hcD.late 8 hnD rfl).symm.trans h) (by decide))⟩
    · exact pzf Try.underlying37 rfl Try.sizeOf35 (1) rfl rfl rfl rfl rfl fun _ _ _ h => h
    · exact fun D ρ w100 hcD hnD hdD hW => ⟨_, kf_fr [54], fun Lr => t_load Try.isAgg35 rfl rfl rfl ((B37.keep hW.1 (fun h => h)).get rfl) (dz rfl hW)⟩
    ·
     intro D ρ w107 hcD hnD hdD hW
     obtain ⟨u108, F109, F110, F111⟩ := hW
     have zu108 := u108.size
     have E112 := E34.next u108 (fun _ _ h => h.elim)
     refine ⟨_, kf_fr [55], fun Lr => ?_⟩
     refine t_call (vs := [.slice an ns.length cn]) own25 rfl rfl rfl rfl (narrows_c ns an bn on cn _ (hn.keep E112 (fun _ h => h)) (by omega)) (fun v113 w114 r116 => ?_)
     obtain ⟨⟨aoN, bN, cpN, rfl, hN, _⟩, u115⟩ := r116
     have zu115 := u115.size
     exact dzn rfl ⟨(u108.next u115 (fun _ _ h => h.elim)), (fun h => by obtain ⟨us1, bU1, cpU1, bsU1, lmU1, e, hB⟩ := F109 h; exact ⟨us1, bU1, cpU1, bsU1, lmU1, e, fun h2 => ⟨(hB h2).1, (hB h2).2.1, (hB h2).2.2.1, (Nat.le_trans (hB h2).2.2.2.1 u115.size), ((hB h2).2.2.2.2.1.keep u115 (fun _ h => h)), ((hB h2).2.2.2.2.2.keep u115 (fun _ _ _ _ h => h))⟩⟩), (fun _ => ⟨aoN, bN, cpN, rfl, fun _ => hN⟩), (fun h => absurd ((hcD.late 8 hnD rfl).symm.trans h) (by decide))⟩
    · exact pz rfl rfl rfl rfl fun _ _ _ h => h
    · exact fun D ρ w118 hcD hnD hdD hW => ⟨_, kf_fr [57], fun Lr => t_conv Try.underlying5 Try.underlying3 rfl rfl rfl (IntWalk.i64_in _ (by omega)) (dz rfl hW)⟩
    ·
     intro D ρ w124 hcD hnD hdD hW
     obtain ⟨u125, F126, F127, F128⟩ := hW
     have zu125 := u125.size
     obtain ⟨us1, bU1, cpU1, bsU1, lmU1, e130, H131⟩ := F126 (hdD 2 rfl)
     have H132 := H131 hnD
     obtain ⟨mp1, lo1, bb1, ll1, ac1, fm1⟩ := id H132
     have ltb1 := ac1.lt
     obtain ⟨aoN, bN, cpN, e133, H134⟩ := F127 (hdD 5 rfl)
     have H135 := H134 hnD
     refine ⟨[(53, .slice (some ⟨bU1, 0, none⟩) us1.length cpU1), (56, .slice aoN ns.length cpN), (58, .int .i64 most)], ⟨fi 2 rfl rfl e130.symm, fi 5 rfl rfl e133.symm, fi 7 rfl rfl rfl, trivial⟩, fun Lr => ?_⟩
     refine t_call (vs := [.slice (some ⟨bU1, 0, none⟩) us1.length cpU1, .slice aoN ns.length cpN, .int .i64 most]) own23 rfl rfl rfl rfl (HoldsU_c us1 (some ⟨bU1, 0, none⟩) bU1 cpU1 ns aoN bN 0 cpN most (vs.map HVoy.v) _ mp1 (ac1.sl (fun _ => rfl)) (fun x hx => (fm1 x hx).1) H135 hvl2 hrl2 (by omega)) (fun v136 w137 r139 => ?_)
     obtain ⟨⟨ls, atA, eA, aoA, bA, cpA, rfl, hHA⟩, u138⟩ := r139
     have zu138 := u138.size
     exact dzn rfl ⟨(u125.next u138 (fun _ _ h => h.elim)), (fun h => by obtain ⟨us1, bU1, cpU1, bsU1, lmU1, e, _⟩ := F126 h; exact ⟨us1, bU1, cpU1, bsU1, lmU1, e, fun h => by cases h⟩), (fun h => by obtain ⟨aoN, bN, cpN, e, _⟩ := F127 h; exact ⟨aoN, bN, cpN, e, fun h => by cases h⟩), (fun _ => ⟨ls, atA, eA, aoA, bA, cpA, rfl, hHA, (fun h => absurd ((hcD.late 9 hnD rfl).symm.trans h) (by decide)), (fun h => absurd ((hcD.late 10 (hcD.late 9 hnD rfl) rfl).symm.trans h) (by decide)), (fun h => absurd ((hcD.late 11 (hcD.late 9 hnD rfl) rfl).symm.trans h) (by decide)), (fun h => absurd ((hcD.late 12 (hcD.late 9 hnD rfl) rfl).symm.trans h) (by decide)), (fun h => absurd ((hcD.late 13 hnD rfl).symm.trans h) (by decide)), (fun h => absurd ((hcD.late 14 hnD rfl).symm.trans h) (by decide)), (fun h => absurd ((hcD.late 15 hnD rfl).symm.trans h) (by decide))⟩)⟩
    ·
     intro D ρ w141 hcD hnD hdD hW
     obtain ⟨u142, F143, F144, F145⟩ := hW
     have zu142 := u142.size
     obtain ⟨ls, atA, eA, aoA, bA, cpA, e147, H148, k149, k150, k151, k152, k153, k154, k155⟩ := F145 (hdD 8 rfl)
     have hA := H148.2
     refine ⟨[(59, .tuple #[.slice aoA ls.length cpA, .int .i64 atA, .int .i64 eA])], ⟨fi 8 rfl rfl e147.symm, trivial⟩, fun Lr => ?_⟩
     refine t_move rfl rfl rfl ?_
     exact dzn rfl ⟨u142, F143, F144, (fun _ => ⟨ls, atA, eA, aoA, bA, cpA, e147, H148, (fun _ => rfl), k150, k151, k152, k153, k154, k155⟩)⟩
    ·
     intro D ρ w156 hcD hnD hdD hW
     obtain ⟨u157, F158, F159, F160⟩ := hW
     have zu157 := u157.size
     obtain ⟨ls, atA, eA, aoA, bA, cpA, e162, H163, k164, k165, k166, k167, k168, k169, k170⟩ := F160 (hcD 9 (hdD 9 rfl) 8 (memB_iff.1 rfl))
     have hA := H163.2
     refine ⟨[(50, .tuple #[.slice aoA ls.length cpA, .int .i64 atA, .int .i64 eA])], ⟨fi 9 rfl rfl (k164 (hdD 9 rfl)).symm, trivial⟩, fun Lr => ?_⟩
     refine t_extract (vs := [.slice aoA ls.length cpA, .int .i64 atA, .int .i64 eA]) rfl rfl rfl rfl ?_
     exact dzn rfl ⟨u157, F158, F159, (fun _ => ⟨ls, atA, eA, aoA, bA, cpA, e162, H163, k164, (fun _ => rfl), k166, k167, k168, k169, k170⟩)⟩
    ·
     intro D ρ w171 hcD hnD hdD hW
     obtain ⟨u172, F173, F174, F175⟩ := hW
     have zu172 := u172.size
     obtain ⟨ls, atA, eA, aoA, bA, cpA, e177, H178, k179, k180, k181, k182, k183, k184, k185⟩ := F175 (hcD 9 (hdD 9 rfl) 8 (memB_iff.1 rfl))
     have hA := H178.2
     refine ⟨[(50, .tuple #[.slice aoA ls.length cpA, .int .i64 atA, .int .i64 eA])], ⟨fi 9 rfl rfl (k179 (hdD 9 rfl)).symm, trivial⟩, fun Lr => ?_⟩
     refine t_extract (vs := [.slice aoA ls.length cpA, .int .i64 atA, .int .i64 eA]) rfl rfl rfl rfl ?_
     exact dzn rfl ⟨u172, F173, F174, (fun _ => ⟨ls, atA, eA, aoA, bA, cpA, e177, H178, k179, k180, (fun _ => rfl), k182, k183, k184, k185⟩)⟩
    ·
     intro D ρ w186 hcD hnD hdD hW
     obtain ⟨u187, F188, F189, F190⟩ := hW
     have zu187 := u187.size
     obtain ⟨ls, atA, eA, aoA, bA, cpA, e192, H193, k194, k195, k196, k197, k198, k199, k200⟩ := F190 (hcD 9 (hdD 9 rfl) 8 (memB_iff.1 rfl))
     have hA := H193.2
     refine ⟨[(50, .tuple #[.slice aoA ls.length cpA, .int .i64 atA, .int .i64 eA])], ⟨fi 9 rfl rfl (k194 (hdD 9 rfl)).symm, trivial⟩, fun Lr => ?_⟩
     refine t_extract (vs := [.slice aoA ls.length cpA, .int .i64 atA, .int .i64 eA]) rfl rfl rfl rfl ?_
     exact dzn rfl ⟨u187, F188, F189, (fun _ => ⟨ls, atA, eA, aoA, bA, cpA, e192, H193, k194, k195, k196, (fun _ => rfl), k198, k199, k200⟩)⟩
    ·
     intro D ρ w201 hcD hnD hdD hW
     obtain ⟨u202, F203, F204, F205⟩ := hW
     have zu202 := u202.size
     obtain ⟨ls, atA, eA, aoA, bA, cpA, e207, H208, k209, k210, k211, k212, k213, k214, k215⟩ := F205 (hdD 8 rfl)
     have hA := H208.2
     refine ⟨[(60, .slice aoA ls.length cpA)], ⟨fi 10 rfl rfl (k210 (hdD 10 rfl)).symm, trivial⟩, fun Lr => ?_⟩
     refine t_assign rfl rfl rfl ?_
     exact dzn rfl ⟨u202, F203, F204, (fun _ => ⟨ls, atA, eA, aoA, bA, cpA, e207, H208, k209, k210, k211, k212, (fun _ => rfl), k214, k215⟩)⟩
    ·
     intro D ρ w216 hcD hnD hdD hW
     obtain ⟨u217, F218, F219, F220⟩ := hW
     have zu217 := u217.size
     obtain ⟨ls, atA, eA, aoA, bA, cpA, e222, H223, k224, k225, k226, k227, k228, k229, k230⟩ := F220 (hdD 8 rfl)
     have hA := H223.2
     refine ⟨[(61, .int .i64 atA)], ⟨fi 11 rfl rfl (k226 (hdD 11 rfl)).symm, trivial⟩, fun Lr => ?_⟩
     refine t_assign rfl rfl rfl ?_
     exact dzn rfl ⟨u217, F218, F219, (fun _ => ⟨ls, atA, eA, aoA, bA, cpA, e222, H223, k224, k225, k226, k227, k228, (fun _ => rfl), k230⟩)⟩
    ·
     intro D ρ w231 hcD hnD hdD hW
     obtain ⟨u232, F233, F234, F235⟩ := hW
     have zu232 := u232.size
     obtain ⟨ls, atA, eA, aoA, bA, cpA, e237, H238, k239, k240, k241, k242, k243, k244, k245⟩ := F235 (hdD 8 rfl)
     have hA := H238.2
     refine ⟨[(62, .int .i64 eA)], ⟨fi 12 rfl rfl (k242 (hdD 12 rfl)).symm, trivial⟩, fun Lr => ?_⟩
     refine t_assign rfl rfl rfl ?_
     exact dzn rfl ⟨u232, F233, F234, (fun _ => ⟨ls, atA, eA, aoA, bA, cpA, e237, H238, k239, k240, k241, k242, k243, k244, (fun _ => rfl)⟩)⟩
    intro ρ w246 hW
    obtain ⟨u247, F248, F249, F250⟩ := hW
    have zu247 := u247.size
    have E251 := E34.next u247 (fun _ _ h => h.elim)
    obtain ⟨ls, atA, eA, aoA, bA, cpA, e254, H255, k256, k257, k258, k259, k260, k261, k262⟩ := F250 rfl
    have hA := H255.2
    refine QK.weak [(1, .int .u8 most), (2, .pointer (some ⟨bk2, 0, none⟩)), (7, .slice aoA ls.length cpA), (8, .int .i64 atA), (9, .int .i64 eA)] ⟨rfl, rfl, (look_nd (j := 13) rfl rfl rfl (k260 rfl)), (look_nd (j := 14) rfl rfl rfl (k261 rfl)), (look_nd (j := 15) rfl rfl rfl (k262 rfl)), trivial⟩ (hK63 _ _ (c_seq fun K263 hK263 => ?_))
    have B264 := (B37.keep u247 (fun h => h))
    refine WC.weak [(1, .int .u8 most), (2, .pointer (some ⟨bk2, 0, none⟩)), (7, .slice aoA ls.length cpA), (8, .int .i64 atA), (9, .int .i64 eA)] ⟨rfl, rfl, rfl, rfl, rfl, trivial⟩ (c_drawn follows 12 [some (64, some (.pointer (some ⟨bk2, 0, none⟩))), some (65, some (.slice av vs.length cv)), some (66, none), some (67, some (.pointer (some ⟨bk2, 1, none⟩))), some (68, some (.slice an ns.length cn)), some (69, none), some (70, none), some (63, none), some (71, none), some (72, none), some (10, none), some (11, none)] [[],[0],[1],[],[3],[4,2],[2,5,5],[6],[7],[7],[8,6,0,1,2,3,4,5,6,7,8],[9,10,0,1,2,3,4,5,6,7,8,9,10]] (fun D ρ w => Upd (fun _ => False) w246 w ∧ (D 2 = true → ∃ us2 bU2 cpU2 bsU2 lmU2, ρ 2 = .slice (some ⟨bU2, 0, none⟩) us2.length cpU2 ∧ (D 6 = false → (us2.map HVoy.v = (vs.map HVoy.v) ∧ w246.heap.size ≤ bsU2 ∧ bsU2 ≤ bU2 ∧ lmU2 ≤ w.heap.size ∧ Acc encHVoy 5 48 bsU2 w (some ⟨bU2, 0, none⟩) bU2 cpU2 us2 ∧ Fam encRun 6 HVoy.ao HVoy.b HVoy.o (fun x : HVoy => x.v.runs) bsU2 bU2 lmU2 us2 w))) ∧ (D 5 = true → ∃ aoN bN cpN, ρ 5 = .slice aoN ns.length cpN ∧ (D 6 = false → Sl encNar 4 w aoN bN 0 ns)) ∧ (D 6 = true → ∃ ms2 eM2 aoM2 bM2 cpM2, ρ 6 = .tuple #[.slice aoM2 ms2.length cpM2, .int .i64 eM2] ∧ (Sl encMt 3 w aoM2 bM2 0 ms2 ∧ eM2 = OpenE ((vs.map HVoy.v)) ns ∧ (eM2 ≠ 0 → ms2 = []) ∧ (eM2 = 0 → ms2 = confL ((vs.map HVoy.v)) ns)) ∧ (D 7 = true → ρ 7 = .tuple #[.slice aoM2 ms2.length cpM2, .int .i64 eM2]) ∧ (D 8 = true → ρ 8 = .slice aoM2 ms2.length cpM2) ∧ (D 9 = true → ρ 9 = .int .i64 eM2) ∧ (D 10 = true → ρ 10 = .slice aoM2 ms2.length cpM2) ∧ (D 11 = true → ρ 11 = .int .i64 eM2))) rfl rfl rfl (by kernel_rfl) (by kernel_rfl) ⟨(Upd.drew _).to, (fun h => by cases h), (fun h => by cases h), (fun h => by cases h)⟩ ⟨?_, ?_, ?_, ?_, ?_, ?_, ?_, ?_, ?_, ?_, ?_, ?_, trivial⟩ ?_)
    · exact pzf Try.underlying37 rfl Try.sizeOf34 (0) rfl rfl rfl rfl rfl fun _ _ _ h => h
    · exact fun D ρ w283 hcD hnD hdD hW => ⟨_, kf_fr [64], fun Lr => t_load Try.isAgg34 rfl rfl rfl ((B264.keep hW.1 (fun h => h)).get rfl) (dz rfl hW)⟩
    ·
     intro D ρ w290 hcD hnD hdD hW
     obtain ⟨u291, F292, F293, F294⟩ := hW
     have zu291 := u291.size
     have E295 := E251.next u291 (fun _ _ h => h.elim)
     refine ⟨_, kf_fr [65], fun Lr => ?_⟩
     refine t_call (vs := [.slice av vs.length cv]) own24 rfl rfl rfl rfl (allA_c vs av bv ov cv _ (hs.keep E295 (fun _ h => h)) (fun x hx => (hruns x hx).keep E295 (fun _ h => h)) (by omega) hrl) (fun v296 w297 r299 => ?_)
     obtain ⟨⟨us2, bU2, cpU2, bsU2, rfl, mpX2, acX2, fmX2, loX2, bbX2⟩, u298⟩ := r299
     have zu298 := u298.size
     exact dzn rfl ⟨(u291.next u298 (fun _ _ h => h.elim)), (fun _ => ⟨us2, bU2, cpU2, bsU2, w297.heap.size, rfl, fun _ => ⟨mpX2, by omega, bbX2, Nat.le_refl _, acX2, fmX2⟩⟩), (fun h => absurd ((hcD.late 5 hnD rfl).symm.trans h) (by decide)), (fun h => absurd ((hcD.late 6 hnD rfl).symm.trans h) (by decide))⟩
    · exact pzf Try.underlying37 rfl Try.sizeOf35 (1) rfl rfl rfl rfl rfl fun _ _ _ h => h
    · exact fun D ρ w301 hcD hnD hdD hW => ⟨_, kf_fr [67], fun Lr => t_load Try.isAgg35 rfl rfl rfl ((B264.keep hW.1 (fun h => h)).get rfl) (dz rfl hW)⟩
    ·
     intro D ρ w308 hcD hnD hdD hW
     obtain ⟨u309, F310, F311, F312⟩ := hW
     have zu309 := u309.size
     have E313 := E251.next u309 (fun _ _ h => h.elim)
     refine ⟨_, kf_fr [68], fun Lr => ?_⟩
     refine t_call (vs := [.slice an ns.length cn]) own25 rfl rfl rfl rfl (narrows_c ns an bn on cn _ (hn.keep E313 (fun _ h => h)) (by omega)) (fun v314 w315 r317 => ?_)
     obtain ⟨⟨aoN, bN, cpN, rfl, hN, _⟩, u316⟩ := r317
     have zu316 := u316.size
     exact dzn rfl ⟨(u309.next u316 (fun _ _ h => h.elim)), (fun h => by obtain ⟨us2, bU2, cpU2, bsU2, lmU2, e, hB⟩ := F310 h; exact ⟨us2, bU2, cpU2, bsU2, lmU2, e, fun h2 => ⟨(hB h2).1, (hB h2).2.1, (hB h2).2.2.1, (Nat.le_trans (hB h2).2.2.2.1 u316.size), ((hB h2).2.2.2.2.1.keep u316 (fun _ h => h)), ((hB h2).2.2.2.2.2.keep u316 (fun _ _ _ _ h => h))⟩⟩), (fun _ => ⟨aoN, bN, cpN, rfl, fun _ => hN⟩), (fun h => absurd ((hcD.late 6 hnD rfl).symm.trans h) (by decide))⟩
    ·
     intro D ρ w319 hcD hnD hdD hW
     obtain ⟨u320, F321, F322, F323⟩ := hW
     have zu320 := u320.size
     obtain ⟨us2, bU2, cpU2, bsU2, lmU2, e325, H326⟩ := F321 (hdD 2 rfl)
     have H327 := H326 hnD
     obtain ⟨mp2, lo2, bb2, ll2, ac2, fm2⟩ := id H327
     have ltb2 := ac2.lt
     obtain ⟨aoN, bN, cpN, e328, H329⟩ := F322 (hdD 5 rfl)
     have H330 := H329 hnD
     refine ⟨[(66, .slice (some ⟨bU2, 0, none⟩) us2.length cpU2), (69, .slice aoN ns.length cpN)], ⟨fi 2 rfl rfl e325.symm, fi 5 rfl rfl e328.symm, trivial⟩, fun Lr => ?_⟩
     refine t_call (vs := [.slice (some ⟨bU2, 0, none⟩) us2.length cpU2, .slice aoN ns.length cpN]) own54 rfl rfl rfl rfl (ConfU_c us2 (some ⟨bU2, 0, none⟩) bU2 cpU2 ns aoN bN 0 cpN ((vs.map HVoy.v)) _ mp2 (ac2.sl (fun _ => rfl)) (fun x hx => (fm2 x hx).1) H330 hvl2 hrl2 (by omega)) (fun v331 w332 r334 => ?_)
     obtain ⟨⟨ms2, eM2, aoM2, bM2, cpM2, rfl, hHM⟩, u333⟩ := r334
     have zu333 := u333.size
     exact dzn rfl ⟨(u320.next u333 (fun _ _ h => h.elim)), (fun h => by obtain ⟨us2, bU2, cpU2, bsU2, lmU2, e, _⟩ := F321 h; exact ⟨us2, bU2, cpU2, bsU2, lmU2, e, fun h => by cases h⟩), (fun h => by obtain ⟨aoN, bN, cpN, e, _⟩ := F322 h; exact ⟨aoN, bN, cpN, e, fun h => by cases h⟩), (fun _ => ⟨ms2, eM2, aoM2, bM2, cpM2, rfl, hHM, (fun h => absurd ((hcD.late 7 hnD rfl).symm.trans h) (by decide)), (fun h => absurd ((hcD.late 8 (hcD.late 7 hnD rfl) rfl).symm.trans h) (by decide)), (fun h => absurd ((hcD.late 9 (hcD.late 7 hnD rfl) rfl).symm.trans h) (by decide)), (fun h => absurd ((hcD.late 10 hnD rfl).symm.trans h) (by decide)), (fun h => absurd ((hcD.late 11 hnD rfl).symm.trans h) (by decide))⟩)⟩
    ·
     intro D ρ w336 hcD hnD hdD hW
     obtain ⟨u337, F338, F339, F340⟩ := hW
     have zu337 := u337.size
     obtain ⟨ms2, eM2, aoM2, bM2, cpM2, e342, H343, k344, k345, k346, k347, k348⟩ := F340 (hdD 6 rfl)
     obtain ⟨hSl2, he2, hmn2, hmc2⟩ := id H343
     refine ⟨[(70, .tuple #[.slice aoM2 ms2.length cpM2, .int .i64 eM2])], ⟨fi 6 rfl rfl e342.symm, trivial⟩, fun Lr => ?_⟩
     refine t_move rfl rfl rfl ?_
     exact dzn rfl ⟨u337, F338, F339, (fun _ => ⟨ms2, eM2, aoM2, bM2, cpM2, e342, H343, (fun _ => rfl), k345, k346, k347, k348⟩)⟩
    ·
     intro D ρ w349 hcD hnD hdD hW
     obtain ⟨u350, F351, F352, F353⟩ := hW
     have zu350 := u350.size
     obtain ⟨ms2, eM2, aoM2, bM2, cpM2, e355, H356, k357, k358, k359, k360, k361⟩ := F353 (hcD 7 (hdD 7 rfl) 6 (memB_iff.1 rfl))
     obtain ⟨hSl2, he2, hmn2, hmc2⟩ := id H356
     refine ⟨[(63, .tuple #[.slice aoM2 ms2.length cpM2, .int .i64 eM2])], ⟨fi 7 rfl rfl (k357 (hdD 7 rfl)).symm, trivial⟩, fun Lr => ?_⟩
     refine t_extract (vs := [.slice aoM2 ms2.length cpM2, .int .i64 eM2]) rfl rfl rfl rfl ?_
     exact dzn rfl ⟨u350, F351, F352, (fun _ => ⟨ms2, eM2, aoM2, bM2, cpM2, e355, H356, k357, (fun _ => rfl), k359, k360, k361⟩)⟩
    ·
     intro D ρ w362 hcD hnD hdD hW
     obtain ⟨u363, F364, F365, F366⟩ := hW
     have zu363 := u363.size
     obtain ⟨ms2, eM2, aoM2, bM2, cpM2, e368, H369, k370, k371, k372, k373, k374⟩ := F366 (hcD 7 (hdD 7 rfl) 6 (memB_iff.1 rfl))
     obtain ⟨hSl2, he2, hmn2, hmc2⟩ := id H369
     refine ⟨[(63, .tuple #[.slice aoM2 ms2.length cpM2, .int .i64 eM2])], ⟨fi 7 rfl rfl (k370 (hdD 7 rfl)).symm, trivial⟩, fun Lr => ?_⟩
     refine t_extract (vs := [.slice aoM2 ms2.length cpM2, .int .i64 eM2]) rfl rfl rfl rfl ?_
     exact dzn rfl ⟨u363, F364, F365, (fun _ => ⟨ms2, eM2, aoM2, bM2, cpM2, e368, H369, k370, k371, (fun _ => rfl), k373, k374⟩)⟩
    ·
     intro D ρ w375 hcD hnD hdD hW
     obtain ⟨u376, F377, F378, F379⟩ := hW
     have zu376 := u376.size
     obtain ⟨ms2, eM2, aoM2, bM2, cpM2, e381, H382, k383, k384, k385, k386, k387⟩ := F379 (hdD 6 rfl)
     obtain ⟨hSl2, he2, hmn2, hmc2⟩ := id H382
     refine ⟨[(71, .slice aoM2 ms2.length cpM2)], ⟨fi 8 rfl rfl (k384 (hdD 8 rfl)).symm, trivial⟩, fun Lr => ?_⟩
     refine t_assign rfl rfl rfl ?_
     exact dzn rfl ⟨u376, F377, F378, (fun _ => ⟨ms2, eM2, aoM2, bM2, cpM2, e381, H382, k383, k384, k385, (fun _ => rfl), k387⟩)⟩
    ·
     intro D ρ w388 hcD hnD hdD hW
     obtain ⟨u389, F390, F391, F392⟩ := hW
     have zu389 := u389.size
     obtain ⟨ms2, eM2, aoM2, bM2, cpM2, e394, H395, k396, k397, k398, k399, k400⟩ := F392 (hdD 6 rfl)
     obtain ⟨hSl2, he2, hmn2, hmc2⟩ := id H395
     refine ⟨[(72, .int .i64 eM2)], ⟨fi 9 rfl rfl (k398 (hdD 9 rfl)).symm, trivial⟩, fun Lr => ?_⟩
     refine t_assign rfl rfl rfl ?_
     exact dzn rfl ⟨u389, F390, F391, (fun _ => ⟨ms2, eM2, aoM2, bM2, cpM2, e394, H395, k396, k397, k398, k399, (fun _ => rfl)⟩)⟩
    intro ρ w401 hW
    obtain ⟨u402, F403, F404, F405⟩ := hW
    have zu402 := u402.size
    have E406 := E251.next u402 (fun _ _ h => h.elim)
    obtain ⟨ms2, eM2, aoM2, bM2, cpM2, e409, H410, k411, k412, k413, k414, k415⟩ := F405 rfl
    obtain ⟨hSl2, he2, hmn2, hmc2⟩ := id H410
    refine QK.weak [(1, .int .u8 most), (2, .pointer (some ⟨bk2, 0, none⟩)), (7, .slice aoA ls.length cpA), (8, .int .i64 atA), (9, .int .i64 eA), (10, .slice aoM2 ms2.length cpM2), (11, .int .i64 eM2)] ⟨rfl, rfl, rfl, rfl, rfl, (look_nd (j := 10) rfl rfl rfl (k414 rfl)), (look_nd (j := 11) rfl rfl rfl (k415 rfl)), trivial⟩ (hK263 _ _ (c_seq fun K416 hK416 => (c_seq fun K417 hK417 => (c_region (t_move rfl rfl rfl (t_cmp rfl rfl rfl rfl rfl (t_nil' (hK417 _ _ (c_condp rfl (fun g74 => ?_) (fun g74 => ?_))))))))))
    ·
     have hbad : (eA = eM2 ∧ atA = 0 ∧ ls.length = 0) ∨ (eM2 = 0 ∧ eA = 7 ∧ 0 < atA ∧ atA < (vs.length : Int) ∧ 0 < ms2.length ∧ ls.length = 0) := by
       by_cases h0 : OpenE (vs.map HVoy.v) ns = 0
       · have hf := held_fail (hold_ok hA h0 (by omega)) (by omega) g74
         rw [List.length_map] at hf
         refine .inr ⟨by omega, hf.1, hf.2.1, hf.2.2.1, ?_, by rw [hf.2.2.2.1]; rfl⟩
         rw [hmc2 (by omega)]; exact List.length_pos_iff.2 hf.2.2.2.2
       · have hb := hold_bad hA h0
         exact .inl ⟨by omega, hb.2.1, hb.1⟩
     refine c_seq fun K418 hK418 => (c_region (t_move rfl rfl rfl (t_cmp rfl rfl rfl rfl rfl (t_move rfl rfl rfl (t_splitp 77 rfl (fun g77 => ?_) (fun g77 => ?_))))))
     ·
      refine t_move rfl rfl rfl (t_cmp rfl rfl rfl rfl rfl (t_pick_t rfl rfl rfl rfl (t_move rfl rfl rfl (t_splitp 81 rfl (fun g81 => ?_) (fun g81 => ?_)))))
      ·
       refine t_move rfl rfl rfl (t_cmp rfl rfl rfl rfl rfl (t_pick_t rfl rfl rfl rfl (t_move rfl rfl rfl (t_splitp 85 rfl (fun g85 => ?_) (fun g85 => ?_)))))
       ·
        refine t_move rfl rfl rfl (t_field Try.underlying37 rfl Try.sizeOf34 (0) rfl rfl rfl rfl ?_)
        have B419 := (B264.keep u402 (fun h => h))
        refine t_load Try.isAgg34 rfl rfl rfl (B419.get rfl) (t_len Try.underlying34 rfl rfl rfl rfl (t_cmp rfl rfl rfl rfl rfl (t_pick_t rfl rfl rfl rfl (t_move rfl rfl rfl (t_splitp 92 rfl (fun g92 => ?_) (fun g92 => ?_))))))
        ·
         refine t_move rfl rfl rfl (t_len Try.underlying107 rfl rfl rfl rfl (t_cmp rfl rfl rfl rfl rfl (t_pick_t rfl rfl rfl rfl (t_move rfl rfl rfl (t_splitp 97 rfl (fun g97 => ?_) (fun g97 => ?_))))))
         ·
          refine t_skip rfl rfl rfl (t_skip rfl rfl rfl (t_skip rfl rfl rfl (t_skip rfl rfl rfl (t_skip rfl rfl rfl (t_skip rfl rfl rfl (t_skip rfl rfl rfl (t_pick_t rfl rfl rfl rfl (t_move rfl rfl rfl (t_move rfl rfl rfl (t_len Try.underlying27 rfl rfl rfl rfl (t_cmp rfl rfl rfl rfl rfl (t_pick_t rfl rfl rfl rfl (t_move rfl rfl rfl (t_splitp 111 rfl (fun g111 => ?_) (fun g111 => ?_)))))))))))))))
          ·
           refine t_call (vs := []) own16 rfl rfl rfl rfl (known_c _) (fun v420 w421 r423 => ?_)
           obtain ⟨rfl, u422⟩ := r423
           have zu422 := u422.size
           have E424 := E406.next u422 (fun _ _ h => h.elim)
           refine t_pick_t rfl rfl rfl rfl (t_assign rfl rfl rfl (t_nil' (hK418 _ _ (c_ret (f_ret1 (v := .bool true) Try.results15 rfl ?_)))))
           exact ⟨rfl, E424⟩
          ·
           refine t_skip rfl rfl rfl (t_pick_f rfl rfl rfl rfl (t_assign rfl rfl rfl (t_nil' (hK418 _ _ (c_ret (f_ret1 (v := .bool false) Try.results15 rfl ?_))))))
           exfalso; omega
         ·
          refine t_move rfl rfl rfl (t_move rfl rfl rfl (t_cmp rfl rfl rfl rfl rfl (t_move rfl rfl rfl (t_splitp 101 rfl (fun g101 => ?_) (fun g101 => ?_)))))
          ·
           refine t_move rfl rfl rfl (t_cmp rfl rfl rfl rfl rfl (t_pick_t rfl rfl rfl rfl (t_pick_f rfl rfl rfl rfl (t_move rfl rfl rfl (t_splitp 106 rfl (fun g106 => ?_) (fun g106 => ?_))))))
           ·
            refine t_move rfl rfl rfl (t_len Try.underlying27 rfl rfl rfl rfl (t_cmp rfl rfl rfl rfl rfl (t_pick_t rfl rfl rfl rfl (t_move rfl rfl rfl (t_splitp 111 rfl (fun g111 => ?_) (fun g111 => ?_))))))
            ·
             refine t_call (vs := []) own16 rfl rfl rfl rfl (known_c _) (fun v425 w426 r428 => ?_)
             obtain ⟨rfl, u427⟩ := r428
             have zu427 := u427.size
             have E429 := E406.next u427 (fun _ _ h => h.elim)
             refine t_pick_t rfl rfl rfl rfl (t_assign rfl rfl rfl (t_nil' (hK418 _ _ (c_ret (f_ret1 (v := .bool true) Try.results15 rfl ?_)))))
             exact ⟨rfl, E429⟩
            ·
             refine t_skip rfl rfl rfl (t_pick_f rfl rfl rfl rfl (t_assign rfl rfl rfl (t_nil' (hK418 _ _ (c_ret (f_ret1 (v := .bool false) Try.results15 rfl ?_))))))
             exfalso; omega
           ·
            refine t_skip rfl rfl rfl (t_skip rfl rfl rfl (t_skip rfl rfl rfl (t_pick_f rfl rfl rfl rfl (t_move rfl rfl rfl (t_skip rfl rfl rfl (t_pick_f rfl rfl rfl rfl (t_assign rfl rfl rfl (t_nil' (hK418 _ _ (c_ret (f_ret1 (v := .bool false) Try.results15 rfl ?_)))))))))))
            exfalso; omega
          ·
           refine t_skip rfl rfl rfl (t_skip rfl rfl rfl (t_pick_f rfl rfl rfl rfl (t_pick_f rfl rfl rfl rfl (t_move rfl rfl rfl (t_skip rfl rfl rfl (t_skip rfl rfl rfl (t_skip rfl rfl rfl (t_pick_f rfl rfl rfl rfl (t_move rfl rfl rfl (t_skip rfl rfl rfl (t_pick_f rfl rfl rfl rfl (t_assign rfl rfl rfl (t_nil' (hK418 _ _ (c_ret (f_ret1 (v := .bool false) Try.results15 rfl ?_))))))))))))))))
           exfalso; omega
        ·
         refine t_skip rfl rfl rfl (t_skip rfl rfl rfl (t_skip rfl rfl rfl (t_pick_f rfl rfl rfl rfl (t_move rfl rfl rfl (t_move rfl rfl rfl (t_move rfl rfl rfl (t_cmp rfl rfl rfl rfl rfl (t_move rfl rfl rfl (t_splitp 101 rfl (fun g101 => ?_) (fun g101 => ?_))))))))))
         ·
          refine t_move rfl rfl rfl (t_cmp rfl rfl rfl rfl rfl (t_pick_t rfl rfl rfl rfl (t_pick_f rfl rfl rfl rfl (t_move rfl rfl rfl (t_splitp 106 rfl (fun g106 => ?_) (fun g106 => ?_))))))
          ·
           refine t_move rfl rfl rfl (t_len Try.underlying27 rfl rfl rfl rfl (t_cmp rfl rfl rfl rfl rfl (t_pick_t rfl rfl rfl rfl (t_move rfl rfl rfl (t_splitp 111 rfl (fun g111 => ?_) (fun g111 => ?_))))))
           ·
            refine t_call (vs := []) own16 rfl rfl rfl rfl (known_c _) (fun v430 w431 r433 => ?_)
            obtain ⟨rfl, u432⟩ := r433
            have zu432 := u432.size
            have E434 := E406.next u432 (fun _ _ h => h.elim)
            refine t_pick_t rfl rfl rfl rfl (t_assign rfl rfl rfl (t_nil' (hK418 _ _ (c_ret (f_ret1 (v := .bool true) Try.results15 rfl ?_)))))
            exact ⟨rfl, E434⟩
           ·
            refine t_skip rfl rfl rfl (t_pick_f rfl rfl rfl rfl (t_assign rfl rfl rfl (t_nil' (hK418 _ _ (c_ret (f_ret1 (v := .bool false) Try.results15 rfl ?_))))))
            exfalso; omega
          ·
           refine t_skip rfl rfl rfl (t_skip rfl rfl rfl (t_skip rfl rfl rfl (t_pick_f rfl rfl rfl rfl (t_move rfl rfl rfl (t_skip rfl rfl rfl (t_pick_f rfl rfl rfl rfl (t_assign rfl rfl rfl (t_nil' (hK418 _ _ (c_ret (f_ret1 (v := .bool false) Try.results15 rfl ?_)))))))))))
           exfalso; omega
         ·
          refine t_skip rfl rfl rfl (t_skip rfl rfl rfl (t_pick_f rfl rfl rfl rfl (t_pick_f rfl rfl rfl rfl (t_move rfl rfl rfl (t_skip rfl rfl rfl (t_skip rfl rfl rfl (t_skip rfl rfl rfl (t_pick_f rfl rfl rfl rfl (t_move rfl rfl rfl (t_skip rfl rfl rfl (t_pick_f rfl rfl rfl rfl (t_assign rfl rfl rfl (t_nil' (hK418 _ _ (c_ret (f_ret1 (v := .bool false) Try.results15 rfl ?_))))))))))))))))
          exfalso; omega
       ·
        refine t_skip rfl rfl rfl (t_skip rfl rfl rfl (t_skip rfl rfl rfl (t_skip rfl rfl rfl (t_skip rfl rfl rfl (t_pick_f rfl rfl rfl rfl (t_move rfl rfl rfl (t_skip rfl rfl rfl (t_skip rfl rfl rfl (t_skip rfl rfl rfl (t_pick_f rfl rfl rfl rfl (t_move rfl rfl rfl (t_move rfl rfl rfl (t_move rfl rfl rfl (t_cmp rfl rfl rfl rfl rfl (t_move rfl rfl rfl (t_splitp 101 rfl (fun g101 => ?_) (fun g101 => ?_)))))))))))))))))
        ·
         refine t_move rfl rfl rfl (t_cmp rfl rfl rfl rfl rfl (t_pick_t rfl rfl rfl rfl (t_pick_f rfl rfl rfl rfl (t_move rfl rfl rfl (t_splitp 106 rfl (fun g106 => ?_) (fun g106 => ?_))))))
         ·
          refine t_move rfl rfl rfl (t_len Try.underlying27 rfl rfl rfl rfl (t_cmp rfl rfl rfl rfl rfl (t_pick_t rfl rfl rfl rfl (t_move rfl rfl rfl (t_splitp 111 rfl (fun g111 => ?_) (fun g111 => ?_))))))
          ·
           refine t_call (vs := []) own16 rfl rfl rfl rfl (known_c _) (fun v435 w436 r438 => ?_)
           obtain ⟨rfl, u437⟩ := r438
           have zu437 := u437.size
           have E439 := E406.next u437 (fun _ _ h => h.elim)
           refine t_pick_t rfl rfl rfl rfl (t_assign rfl rfl rfl (t_nil' (hK418 _ _ (c_ret (f_ret1 (v := .bool true) Try.results15 rfl ?_)))))
           exact ⟨rfl, E439⟩
          ·
           refine t_skip rfl rfl rfl (t_pick_f rfl rfl rfl rfl (t_assign rfl rfl rfl (t_nil' (hK418 _ _ (c_ret (f_ret1 (v := .bool false) Try.results15 rfl ?_))))))
           exfalso; omega
         ·
          refine t_skip rfl rfl rfl (t_skip rfl rfl rfl (t_skip rfl rfl rfl (t_pick_f rfl rfl rfl rfl (t_move rfl rfl rfl (t_skip rfl rfl rfl (t_pick_f rfl rfl rfl rfl (t_assign rfl rfl rfl (t_nil' (hK418 _ _ (c_ret (f_ret1 (v := .bool false) Try.results15 rfl ?_)))))))))))
          exfalso; omega
        ·
         refine t_skip rfl rfl rfl (t_skip rfl rfl rfl (t_pick_f rfl rfl rfl rfl (t_pick_f rfl rfl rfl rfl (t_move rfl rfl rfl (t_skip rfl rfl rfl (t_skip rfl rfl rfl (t_skip rfl rfl rfl (t_pick_f rfl rfl rfl rfl (t_move rfl rfl rfl (t_skip rfl rfl rfl (t_pick_f rfl rfl rfl rfl (t_assign rfl rfl rfl (t_nil' (hK418 _ _ (c_ret (f_ret1 (v := .bool false) Try.results15 rfl ?_))))))))))))))))
         exfalso; omega
      ·
       refine t_skip rfl rfl rfl (t_skip rfl rfl rfl (t_pick_f rfl rfl rfl rfl (t_move rfl rfl rfl (t_skip rfl rfl rfl (t_skip rfl rfl rfl (t_skip rfl rfl rfl (t_skip rfl rfl rfl (t_skip rfl rfl rfl (t_pick_f rfl rfl rfl rfl (t_move rfl rfl rfl (t_skip rfl rfl rfl (t_skip rfl rfl rfl (t_skip rfl rfl rfl (t_pick_f rfl rfl rfl rfl (t_move rfl rfl rfl (t_move rfl rfl rfl (t_move rfl rfl rfl (t_cmp rfl rfl rfl rfl rfl (t_move rfl rfl rfl (t_splitp 101 rfl (fun g101 => ?_) (fun g101 => ?_)))))))))))))))))))))
       ·
        refine t_move rfl rfl rfl (t_cmp rfl rfl rfl rfl rfl (t_pick_t rfl rfl rfl rfl (t_pick_f rfl rfl rfl rfl (t_move rfl rfl rfl (t_splitp 106 rfl (fun g106 => ?_) (fun g106 => ?_))))))
        ·
         refine t_move rfl rfl rfl (t_len Try.underlying27 rfl rfl rfl rfl (t_cmp rfl rfl rfl rfl rfl (t_pick_t rfl rfl rfl rfl (t_move rfl rfl rfl (t_splitp 111 rfl (fun g111 => ?_) (fun g111 => ?_))))))
         ·
          refine t_call (vs := []) own16 rfl rfl rfl rfl (known_c _) (fun v440 w441 r443 => ?_)
          obtain ⟨rfl, u442⟩ := r443
          have zu442 := u442.size
          have E444 := E406.next u442 (fun _ _ h => h.elim)
          refine t_pick_t rfl rfl rfl rfl (t_assign rfl rfl rfl (t_nil' (hK418 _ _ (c_ret (f_ret1 (v := .bool true) Try.results15 rfl ?_)))))
          exact ⟨rfl, E444⟩
         ·
          refine t_skip rfl rfl rfl (t_pick_f rfl rfl rfl rfl (t_assign rfl rfl rfl (t_nil' (hK418 _ _ (c_ret (f_ret1 (v := .bool false) Try.results15 rfl ?_))))))
          exfalso; omega
        ·
         refine t_skip rfl rfl rfl (t_skip rfl rfl rfl (t_skip rfl rfl rfl (t_pick_f rfl rfl rfl rfl (t_move rfl rfl rfl (t_skip rfl rfl rfl (t_pick_f rfl rfl rfl rfl (t_assign rfl rfl rfl (t_nil' (hK418 _ _ (c_ret (f_ret1 (v := .bool false) Try.results15 rfl ?_)))))))))))
         exfalso; omega
       ·
        refine t_skip rfl rfl rfl (t_skip rfl rfl rfl (t_pick_f rfl rfl rfl rfl (t_pick_f rfl rfl rfl rfl (t_move rfl rfl rfl (t_skip rfl rfl rfl (t_skip rfl rfl rfl (t_skip rfl rfl rfl (t_pick_f rfl rfl rfl rfl (t_move rfl rfl rfl (t_skip rfl rfl rfl (t_pick_f rfl rfl rfl rfl (t_assign rfl rfl rfl (t_nil' (hK418 _ _ (c_ret (f_ret1 (v := .bool false) Try.results15 rfl ?_))))))))))))))))
        exfalso; omega
     ·
      refine t_skip rfl rfl rfl (t_skip rfl rfl rfl (t_pick_f rfl rfl rfl rfl (t_move rfl rfl rfl (t_skip rfl rfl rfl (t_skip rfl rfl rfl (t_pick_f rfl rfl rfl rfl (t_move rfl rfl rfl (t_skip rfl rfl rfl (t_skip rfl rfl rfl (t_skip rfl rfl rfl (t_skip rfl rfl rfl (t_skip rfl rfl rfl (t_pick_f rfl rfl rfl rfl (t_move rfl rfl rfl (t_skip rfl rfl rfl (t_skip rfl rfl rfl (t_skip rfl rfl rfl (t_pick_f rfl rfl rfl rfl (t_move rfl rfl rfl (t_move rfl rfl rfl (t_move rfl rfl rfl (t_cmp rfl rfl rfl rfl rfl (t_move rfl rfl rfl ?_)))))))))))))))))))))))
      refine t_splitp 101 rfl (fun g101 => ?_) (fun g101 => ?_)
      ·
       refine t_move rfl rfl rfl (t_cmp rfl rfl rfl rfl rfl (t_pick_t rfl rfl rfl rfl (t_pick_f rfl rfl rfl rfl (t_move rfl rfl rfl (t_splitp 106 rfl (fun g106 => ?_) (fun g106 => ?_))))))
       ·
        refine t_move rfl rfl rfl (t_len Try.underlying27 rfl rfl rfl rfl (t_cmp rfl rfl rfl rfl rfl (t_pick_t rfl rfl rfl rfl (t_move rfl rfl rfl (t_splitp 111 rfl (fun g111 => ?_) (fun g111 => ?_))))))
        ·
         refine t_call (vs := []) own16 rfl rfl rfl rfl (known_c _) (fun v445 w446 r448 => ?_)
         obtain ⟨rfl, u447⟩ := r448
         have zu447 := u447.size
         have E449 := E406.next u447 (fun _ _ h => h.elim)
         refine t_pick_t rfl rfl rfl rfl (t_assign rfl rfl rfl (t_nil' (hK418 _ _ (c_ret (f_ret1 (v := .bool true) Try.results15 rfl ?_)))))
         exact ⟨rfl, E449⟩
        ·
         refine t_skip rfl rfl rfl (t_pick_f rfl rfl rfl rfl (t_assign rfl rfl rfl (t_nil' (hK418 _ _ (c_ret (f_ret1 (v := .bool false) Try.results15 rfl ?_))))))
         exfalso; omega
       ·
        refine t_skip rfl rfl rfl (t_skip rfl rfl rfl (t_skip rfl rfl rfl (t_pick_f rfl rfl rfl rfl (t_move rfl rfl rfl (t_skip rfl rfl rfl (t_pick_f rfl rfl rfl rfl (t_assign rfl rfl rfl (t_nil' (hK418 _ _ (c_ret (f_ret1 (v := .bool false) Try.results15 rfl ?_)))))))))))
        exfalso; omega
      ·
       refine t_skip rfl rfl rfl (t_skip rfl rfl rfl (t_pick_f rfl rfl rfl rfl (t_pick_f rfl rfl rfl rfl (t_move rfl rfl rfl (t_skip rfl rfl rfl (t_skip rfl rfl rfl (t_skip rfl rfl rfl (t_pick_f rfl rfl rfl rfl (t_move rfl rfl rfl (t_skip rfl rfl rfl (t_pick_f rfl rfl rfl rfl (t_assign rfl rfl rfl (t_nil' (hK418 _ _ (c_ret (f_ret1 (v := .bool false) Try.results15 rfl ?_))))))))))))))))
       exfalso; omega
    ·
     have hE : OpenE (vs.map HVoy.v) ns = 0 := by
       rcases hA with ⟨h1, _, _, h2⟩ | ⟨h1, _⟩ | ⟨h1, _⟩
       · omega
       · exact h1
       · exact h1
     have hR := hold_ok hA hE (by omega)
     have hG := held_good hR (by omega)
     have hlen := hG.2.1
     rw [List.length_map] at hlen
     have hLR : ∀ j, j < vs.length → LeastR (vs.map HVoy.v) ns ls j (nth ls j) ∧ nth ls j ≤ most := fun j hj => hG.2.2 j (by rw [List.length_map]; exact hj)
     have hat := hG.1
     have hm2 := hmc2 (by omega)
     have hto := thr_of_open hE
     have hst : ∀ x ∈ vs, 0 ≤ x.v.st.lo ∧ x.v.st.hi ≤ 997000 ∧ x.v.st.lo ≤ x.v.st.hi := fun x hx => by
       have h1 := hto.1 x.v (List.mem_map.2 ⟨x, hx, rfl⟩)
       unfold okVoy at h1
       rw [Bool.and_eq_true] at h1
       have h2 := h1.1
       unfold okVoy0 at h2
       rw [decide_eq_true_eq] at h2
       have h3 := hin x hx
       omega
     refine c_skip (hK416 _ _ (c_seq fun K450 hK450 => (c_seq fun K451 hK451 => (c_region (t_move rfl rfl rfl (t_cmp rfl rfl rfl rfl rfl (t_same 115 (v := .bool false) rfl (congrArg Value.bool (decide_eq_false (by omega))) (t_move rfl rfl rfl (t_move rfl rfl rfl (t_len Try.underlying27 rfl rfl rfl rfl (t_field Try.underlying37 rfl Try.sizeOf34 (0) rfl rfl rfl rfl ?_)))))))))))
     have B452 := (B264.keep u402 (fun h => h))
     refine t_load Try.isAgg34 rfl rfl rfl (B452.get rfl) (t_len Try.underlying34 rfl rfl rfl rfl (t_cmp rfl rfl rfl rfl rfl (t_same 122 (v := .bool false) rfl (congrArg Value.bool (decide_eq_false (by omega))) (t_pick_f rfl rfl rfl rfl (t_move rfl rfl rfl (t_move rfl rfl rfl (t_cmp rfl rfl rfl rfl rfl (t_same 126 (v := .bool false) rfl (congrArg Value.bool (decide_eq_false (by omega))) (t_pick_f rfl rfl rfl rfl (t_nil' (hK451 _ _ (c_cond_f rfl (c_skip (hK450 _ _ (c_seq fun K453 hK453 => (c_region (t_bslice (ps := []) (cs := []) (e := 48) rfl rfl ⟨rfl, rfl⟩ (fun w => by kernel_rfl) (fun bk454 w455 ebk454 sbk454 B456 u457 => ?_))))))))))))))))))
     have zu457 := u457.size
     have E458 := E406.next u457 (fun _ _ h => h.elim)
     refine t_assign rfl rfl rfl (t_assign rfl rfl rfl (t_nil' (hK453 _ _ (c_seq fun K459 hK459 => (c_seq fun K460 hK460 => (c_region (t_assign rfl rfl rfl (t_nil' (hK460 _ _ (c_block (c_loop (γ := Nat × Option Addr × Nat × Nat × List HVoy) (fun gg => [(1, .int .u8 most), (2, .pointer (some ⟨bk2, 0, none⟩)), (7, .slice aoA ls.length cpA), (10, .slice aoM2 ms2.length cpM2), (12, .int .i64 (sumI (ls.take gg.1))), (13, .slice gg.2.1 gg.2.2.2.2.length gg.2.2.2.1), (14, .int .i64 (gg.1 : Int))]) (fun gg w => Upd (fun i => i = bk454) w455 w ∧ (gg.1 ≤ ls.length) ∧ (gg.2.2.2.2.map HVoy.v = heldL (vs.map HVoy.v) ls gg.1) ∧ (gg.2.2.2.2.length = gg.1) ∧ (0 ≤ sumI (ls.take gg.1) ∧ sumI (ls.take gg.1) ≤ 255 * gg.1) ∧ (Acc encHVoy 5 48 bk454 w gg.2.1 gg.2.2.1 gg.2.2.2.1 gg.2.2.2.2) ∧ (Fam encRun 6 HVoy.ao HVoy.b HVoy.o (fun x : HVoy => x.v.runs) bk454 gg.2.2.1 w.heap.size gg.2.2.2.2 w)) (fun gg => ls.length - gg.1) (0, some ⟨bk454, 0, none⟩, bk454, 0, []) ⟨rfl, rfl, rfl, rfl, rfl, rfl, rfl, trivial⟩ ⟨Upd.refl _ _, (Nat.zero_le _), rfl, rfl, (by simp [sumI]), (Acc.lit encHVoy 5 B456 (Nat.le_refl _)), Fam.nil⟩ ?_)))))))))))
     intro gg w462 hW K461 hK461
     obtain ⟨k, ao2, g2, c2, us⟩ := gg
     change WC _ _ _ _ _ _ [(1, .int .u8 most), (2, .pointer (some ⟨bk2, 0, none⟩)), (7, .slice aoA ls.length cpA), (10, .slice aoM2 ms2.length cpM2), (12, .int .i64 (sumI (ls.take k))), (13, .slice ao2 us.length c2), (14, .int .i64 (k : Int))] _
     change Upd (fun i => i = bk454) w455 w462 ∧ (k ≤ ls.length) ∧ (us.map HVoy.v = heldL (vs.map HVoy.v) ls k) ∧ (us.length = k) ∧ (0 ≤ sumI (ls.take k) ∧ sumI (ls.take k) ≤ 255 * k) ∧ (Acc encHVoy 5 48 bk454 w462 ao2 g2 c2 us) ∧ (Fam encRun 6 HVoy.ao HVoy.b HVoy.o (fun x : HVoy => x.v.runs) bk454 g2 w462.heap.size us w462) at hW
     obtain ⟨u463, I464, I465, I466, I467, I468, I469⟩ := hW
     have zu463 := u463.size
     have E470 := E458.next u463 (fun i hi (h : i = bk454) => show False by first | omega | assumption)
     have hk := I464; clear I464
     have hum := I465; clear I465
     have hul := I466; clear I466
     have hsum := I467; clear I467
     have hacc := I468; clear I468
     have hfam := I469; clear I469
     have lt_g2 := hacc.lt
     refine c_seq fun K471 hK471 => (c_seq fun K472 hK472 => (c_region (t_move rfl rfl rfl (t_move rfl rfl rfl (t_len Try.underlying27 rfl rfl rfl rfl (t_cmp rfl rfl rfl rfl rfl (t_nil' (hK472 _ _ (c_condp rfl (fun g132 => ?_) (fun g132 => ?_))))))))))
     ·
      have hkv : k < vs.length := by omega
      have hLk := hLR k hkv
      have hk0 := hLk.1.1
      have hrk : (nth vs k).v.runs.length ≤ 1000000 := hrl _ (nth_mem hkv)
      have hsk := hst _ (nth_mem hkv)
      have hbk : (0 ≤ (nth vs k).v.st.lo ∧ (nth vs k).v.st.lo ≤ 1000000) ∧ (0 ≤ (nth vs k).v.st.hi ∧ (nth vs k).v.st.hi ≤ 1000000) := by omega
      have hrlu : ∀ x ∈ us, x.v.runs.length ≤ 1000000 := held_runs hum hrl (by omega)
      have hLl : ∀ v ∈ heldL (vs.map HVoy.v) ls k ++ [heldV (nth vs k).v (nth ls k - 1)], v.runs.length ≤ 1000000 := fun v hv => by
        rcases List.mem_append.1 hv with h | h
        · rw [← hum] at h; obtain ⟨x, hx, rfl⟩ := List.mem_map.1 h; exact hrlu x hx
        · rw [List.mem_singleton.1 h]; exact hrk
      refine c_skip (hK471 _ _ (c_seq fun K473 hK473 => (c_block (c_seq fun K474 hK474 => (c_seq fun K475 hK475 => (c_region (t_move rfl rfl rfl (t_move rfl rfl rfl ?_))))))))
      have D476 := (((H255.1.keep u402 (fun _ h => h)).keep u457 (fun _ h => h)).keep u463 (fun hp => by have hlt := (H255.1).lt hp; show ¬ (bA = bk454); omega))
      have i477 : k < ls.length := (by omega)
      refine t_index (j := k) Try.underlying27 Try.sizeOf3 rfl rfl rfl rfl (D476.addr (by omega)) rfl i477 (t_load Try.isAgg3 rfl rfl rfl ((D476.at_ k (by omega)) 0 _ rfl) (t_cmp rfl rfl rfl rfl rfl (t_same 139 (v := .bool false) rfl (congrArg Value.bool (decide_eq_false (by omega))) (t_move rfl rfl rfl (t_move rfl rfl rfl (t_move rfl rfl rfl ?_))))))
      have i478 : k < ls.length := (by omega)
      refine t_index (j := k) Try.underlying27 Try.sizeOf3 rfl rfl rfl rfl (D476.addr (by omega)) rfl i478 (t_load Try.isAgg3 rfl rfl rfl ((D476.at_ k (by omega)) 0 _ rfl) (t_move rfl rfl rfl (t_conv Try.underlying5 Try.underlying3 rfl rfl rfl (IntWalk.i64_in _ (by omega)) (t_cmp rfl rfl rfl rfl rfl (t_same 147 (v := .bool false) rfl (congrArg Value.bool (decide_eq_false (by omega))) (t_pick_f rfl rfl rfl rfl (t_nil' (hK475 _ _ (c_cond_f rfl (c_skip (hK474 _ _ (c_seq fun K479 hK479 => (c_seq fun K480 hK480 => (c_region (t_move rfl rfl rfl (t_move rfl rfl rfl ?_))))))))))))))))
      have i481 : k < ls.length := (by omega)
      refine t_index (j := k) Try.underlying27 Try.sizeOf3 rfl rfl rfl rfl (D476.addr (by omega)) rfl i481 (t_load Try.isAgg3 rfl rfl rfl ((D476.at_ k (by omega)) 0 _ rfl) (t_cmp rfl rfl rfl rfl rfl (t_nil' (hK480 _ _ (c_condp rfl (fun g153 => ?_) (fun g153 => ?_))))))
      ·
       refine c_seq fun K482 hK482 => ?_
       have B483 := ((B452.keep u457 (fun h => h)).keep u463 (show ¬ (bk2 = bk454) by first | omega | assumption))
       refine WC.weak [(1, .int .u8 most), (2, .pointer (some ⟨bk2, 0, none⟩)), (7, .slice aoA ls.length cpA), (10, .slice aoM2 ms2.length cpM2), (12, .int .i64 (sumI (ls.take k))), (13, .slice ao2 us.length c2), (14, .int .i64 (k : Int))] ⟨rfl, rfl, rfl, rfl, rfl, rfl, rfl, trivial⟩ (c_drawn follows 24 [some (155, some (.slice ao2 us.length c2)), some (156, none), some (157, some (.pointer (some ⟨bk2, 0, none⟩))), some (158, some (.slice av vs.length cv)), some (159, some (.int .i64 (k : Int))), some (160, some (.pointer (some ⟨bv, ov + k * 5, none⟩))), some (161, some (.agg #[.int .i64 ((nth vs k).v.st.lo), .int .i64 ((nth vs k).v.st.hi), .slice ((nth vs k).ao) (((nth vs k).v.runs).length) ((nth vs k).cap), .int .i64 ((nth vs k).v.len), .int .i64 ((nth vs k).v.wid)])), some (162, some (.slice aoA ls.length cpA)), some (163, some (.int .i64 (k : Int))), some (164, some (.pointer (some ⟨bA, 0 + k * 1, none⟩))), some (165, some (.int .i64 (nth ls k))), some (166, some (.int .i64 ((nth ls k) - 1))), some (167, none), some (168, none), some (169, none), some (170, some (.pointer (some ⟨bk2, 1, none⟩))), some (171, some (.slice an ns.length cn)), some (172, none), some (173, none), some (154, none), some (174, none), some (175, none), some (15, none), some (16, none)] [[],[0],[],[2],[],[3,4],[5],[],[],[7,8],[9],[10],[6,11,1],[12],[1,13,12],[],[15],[16,14],[14,17,17],[18],[19],[19],[20,18,0,1,2,3,4,5,6,7,8,9,10,11,12,13,14,15,16,17,18,19,20],[21,22,0,1,2,3,4,5,6,7,8,9,10,11,12,13,14,15,16,17,18,19,20,21,22]] (fun D ρ w => Upd (fun _ => False) w462 w ∧ (D 1 = true → ∃ us3 bU3 cpU3 bsU3 lmU3, ρ 1 = .slice (some ⟨bU3, 0, none⟩) us3.length cpU3 ∧ (D 14 = false → (us3.map HVoy.v = heldL (vs.map HVoy.v) ls k ∧ w462.heap.size ≤ bsU3 ∧ bsU3 ≤ bU3 ∧ lmU3 ≤ w.heap.size ∧ Acc encHVoy 5 48 bsU3 w (some ⟨bU3, 0, none⟩) bU3 cpU3 us3 ∧ Fam encRun 6 HVoy.ao HVoy.b HVoy.o (fun x : HVoy => x.v.runs) bsU3 bU3 lmU3 us3 w))) ∧ (D 12 = true → ∃ aoC493 bC493 cpC493, ρ 12 = .agg #[.int .i64 ((heldV (nth vs k).v ((nth ls k) - 1)).st.lo), .int .i64 ((heldV (nth vs k).v ((nth ls k) - 1)).st.hi), .slice aoC493 (((heldV (nth vs k).v ((nth ls k) - 1)).runs).length) cpC493, .int .i64 ((heldV (nth vs k).v ((nth ls k) - 1)).len), .int .i64 ((heldV (nth vs k).v ((nth ls k) - 1)).wid)] ∧ (D 13 = false → (Sl encRun 6 w aoC493 bC493 0 (heldV (nth vs k).v ((nth ls k) - 1)).runs ∧ w462.heap.size ≤ bC493 ∧ (∀ b l c, ρ 1 = .slice (some ⟨b, 0, none⟩) l c → b < bC493)))) ∧ (D 13 = true → ∃ aoC493 bC493 cpC493 bk499, ρ 13 = .slice (some ⟨bk499, 0, none⟩) 1 1 ∧ w462.heap.size ≤ bk499 ∧ Blk w bk499 48 [.int .i64 ((heldV (nth vs k).v ((nth ls k) - 1)).st.lo), .int .i64 ((heldV (nth vs k).v ((nth ls k) - 1)).st.hi), .slice aoC493 (((heldV (nth vs k).v ((nth ls k) - 1)).runs).length) cpC493, .int .i64 ((heldV (nth vs k).v ((nth ls k) - 1)).len), .int .i64 ((heldV (nth vs k).v ((nth ls k) - 1)).wid)] ∧ (Sl encRun 6 w aoC493 bC493 0 (heldV (nth vs k).v ((nth ls k) - 1)).runs ∧ w462.heap.size ≤ bC493 ∧ (∀ b l c, ρ 1 = .slice (some ⟨b, 0, none⟩) l c → b < bC493)) ∧ (∀ b l c, ρ 1 = .slice (some ⟨b, 0, none⟩) l c → b < bk499)) ∧ (D 14 = true → ∃ usW aoW bW cpW bsW lmW, ρ 14 = .slice aoW usW.length cpW ∧ (D 18 = false → (usW.map HVoy.v = heldL (vs.map HVoy.v) ls k ++ [heldV (nth vs k).v (nth ls k - 1)] ∧ Acc encHVoy 5 48 bsW w aoW bW cpW usW ∧ Fam encRun 6 HVoy.ao HVoy.b HVoy.o (fun x : HVoy => x.v.runs) bsW bW lmW usW w))) ∧ (D 17 = true → ∃ aoN bN cpN, ρ 17 = .slice aoN ns.length cpN ∧ (D 18 = false → Sl encNar 4 w aoN bN 0 ns)) ∧ (D 18 = true → ∃ ms4 eM4 aoM4 bM4 cpM4, ρ 18 = .tuple #[.slice aoM4 ms4.length cpM4, .int .i64 eM4] ∧ (Sl encMt 3 w aoM4 bM4 0 ms4 ∧ eM4 = OpenE (heldL (vs.map HVoy.v) ls k ++ [heldV (nth vs k).v (nth ls k - 1)]) ns ∧ (eM4 ≠ 0 → ms4 = []) ∧ (eM4 = 0 → ms4 = confL (heldL (vs.map HVoy.v) ls k ++ [heldV (nth vs k).v (nth ls k - 1)]) ns)) ∧ (D 19 = true → ρ 19 = .tuple #[.slice aoM4 ms4.length cpM4, .int .i64 eM4]) ∧ (D 20 = true → ρ 20 = .slice aoM4 ms4.length cpM4) ∧ (D 21 = true → ρ 21 = .int .i64 eM4) ∧ (D 22 = true → ρ 22 = .slice aoM4 ms4.length cpM4) ∧ (D 23 = true → ρ 23 = .int .i64 eM4))) rfl rfl rfl (by kernel_rfl) (by kernel_rfl) ⟨(Upd.drew _).to, (fun h => by cases h), (fun h => by cases h), (fun h => by cases h), (fun h => by cases h), (fun h => by cases h), (fun h => by cases h)⟩ ⟨?_, ?_, ?_, ?_, ?_, ?_, ?_, ?_, ?_, ?_, ?_, ?_, ?_, ?_, ?_, ?_, ?_, ?_, ?_, ?_, ?_, ?_, ?_, ?_, trivial⟩ ?_)
       · exact pz rfl rfl rfl rfl fun _ _ _ h => h
       ·
        intro D ρ w517 hcD hnD hdD hW
        obtain ⟨u518, F519, F520, F521, F522, F523, F524⟩ := hW
        have zu518 := u518.size
        refine ⟨_, kf_fr [155], fun Lr => ?_⟩
        have D526 := (hacc.keep u518 (fun _ h => h))
        have D527 := (hfam.keep u518 (fun _ _ _ _ h => h))
        refine t_call (vs := [.slice ao2 us.length c2]) own24 rfl rfl rfl rfl (allA_c us ao2 g2 0 c2 _ (D526.sl (fun _ => rfl)) (fun x hx => (D527 x hx).1) (by omega) hrlu) (fun v528 w529 r531 => ?_)
        obtain ⟨⟨us3, bU3, cpU3, bsU3, rfl, mpX3, acX3, fmX3, loX3, bbX3⟩, u530⟩ := r531
        have zu530 := u530.size
        exact dzn rfl ⟨(u518.next u530 (fun _ _ h => h.elim)), (fun _ => ⟨us3, bU3, cpU3, bsU3, w529.heap.size, rfl, fun _ => ⟨mpX3.trans hum, by omega, bbX3, Nat.le_refl _, acX3, fmX3⟩⟩), (fun h => absurd ((hcD.late 12 hnD rfl).symm.trans h) (by decide)), (fun h => absurd ((hcD.late 13 (hcD.late 12 hnD rfl) rfl).symm.trans h) (by decide)), (fun h => absurd ((hcD.late 14 hnD rfl).symm.trans h) (by decide)), (fun h => absurd ((hcD.late 17 (hcD.late 14 hnD rfl) rfl).symm.trans h) (by decide)), (fun h => absurd ((hcD.late 18 (hcD.late 14 hnD rfl) rfl).symm.trans h) (by decide))⟩
       · exact pzf Try.underlying37 rfl Try.sizeOf34 (0) rfl rfl rfl rfl rfl fun _ _ _ h => h
       ·
        intro D ρ w533 hcD hnD hdD hW
        obtain ⟨u534, F535, F536, F537, F538, F539, F540⟩ := hW
        have zu534 := u534.size
        refine ⟨_, kf_fr [157], fun Lr => ?_⟩
        have B542 := (B483.keep u534 (fun h => h))
        refine t_load Try.isAgg34 rfl rfl rfl (B542.get rfl) ?_
        exact dz rfl ⟨u534, F535, (fun h => absurd ((hcD.late 12 (hcD.late 6 (hcD.late 5 hnD rfl) rfl) rfl).symm.trans h) (by decide)), F537, F538, F539, F540⟩
       · exact pz rfl rfl rfl rfl fun _ _ _ h => h
       ·
        intro D ρ w543 hcD hnD hdD hW
        obtain ⟨u544, F545, F546, F547, F548, F549, F550⟩ := hW
        have zu544 := u544.size
        have E551 := E470.next u544 (fun _ _ h => h.elim)
        refine ⟨_, kf_fr [158, 159], fun Lr => ?_⟩
        have i552 : k < vs.length := (by omega)
        refine t_index (j := k) Try.underlying34 Try.sizeOf48 rfl rfl rfl rfl ((hs.keep E551 (fun _ h => h)).addr (by omega)) rfl i552 ?_
        exact dz rfl ⟨u544, F545, (fun h => absurd ((hcD.late 12 (hcD.late 6 hnD rfl) rfl).symm.trans h) (by decide)), F547, F548, F549, F550⟩
       ·
        intro D ρ w553 hcD hnD hdD hW
        obtain ⟨u554, F555, F556, F557, F558, F559, F560⟩ := hW
        have zu554 := u554.size
        have E561 := E470.next u554 (fun _ _ h => h.elim)
        refine ⟨_, kf_fr [160], fun Lr => ?_⟩
        refine t_loadN (vs := [.int .i64 ((nth vs k).v.st.lo), .int .i64 ((nth vs k).v.st.hi), .slice ((nth vs k).ao) (((nth vs k).v.runs).length) ((nth vs k).cap), .int .i64 ((nth vs k).v.len), .int .i64 ((nth vs k).v.wid)]) Try.isAgg48 Try.sizeOf48 rfl rfl rfl (((hs.keep E561 (fun _ h => h)).at_ k (by omega)).sub 0 5) rfl ?_
        exact dz rfl ⟨u554, F555, (fun h => absurd ((hcD.late 12 hnD rfl).symm.trans h) (by decide)), F557, F558, F559, F560⟩
       · exact pz rfl rfl rfl rfl fun _ _ _ h => h
       · exact pz rfl rfl rfl rfl fun _ _ _ h => h
       ·
        intro D ρ w562 hcD hnD hdD hW
        obtain ⟨u563, F564, F565, F566, F567, F568, F569⟩ := hW
        have zu563 := u563.size
        refine ⟨_, kf_fr [162, 163], fun Lr => ?_⟩
        have D571 := (D476.keep u563 (fun _ h => h))
        have i572 : k < ls.length := (by omega)
        refine t_index (j := k) Try.underlying27 Try.sizeOf3 rfl rfl rfl rfl (D571.addr (by omega)) rfl i572 ?_
        exact dz rfl ⟨u563, F564, (fun h => absurd ((hcD.late 12 (hcD.late 11 (hcD.late 10 hnD rfl) rfl) rfl).symm.trans h) (by decide)), F566, F567, F568, F569⟩
       ·
        intro D ρ w573 hcD hnD hdD hW
        obtain ⟨u574, F575, F576, F577, F578, F579, F580⟩ := hW
        have zu574 := u574.size
        refine ⟨_, kf_fr [164], fun Lr => ?_⟩
        have D582 := (D476.keep u574 (fun _ h => h))
        refine t_load Try.isAgg3 rfl rfl rfl ((D582.at_ k (by omega)) 0 _ rfl) ?_
        exact dz rfl ⟨u574, F575, (fun h => absurd ((hcD.late 12 (hcD.late 11 hnD rfl) rfl).symm.trans h) (by decide)), F577, F578, F579, F580⟩
       ·
        intro D ρ w583 hcD hnD hdD hW
        obtain ⟨u584, F585, F586, F587, F588, F589, F590⟩ := hW
        have zu584 := u584.size
        refine ⟨_, kf_fr [165], fun Lr => ?_⟩
        refine t_ari rfl rfl rfl rfl rfl (by omega) ?_
        exact dz rfl ⟨u584, F585, (fun h => absurd ((hcD.late 12 hnD rfl).symm.trans h) (by decide)), F587, F588, F589, F590⟩
       ·
        intro D ρ w592 hcD hnD hdD hW
        obtain ⟨u593, F594, F595, F596, F597, F598, F599⟩ := hW
        have zu593 := u593.size
        have E600 := E470.next u593 (fun _ _ h => h.elim)
        refine ⟨_, kf_fr [161, 166], fun Lr => ?_⟩
        refine t_call (vs := [.agg #[.int .i64 ((nth vs k).v.st.lo), .int .i64 ((nth vs k).v.st.hi), .slice ((nth vs k).ao) (((nth vs k).v.runs).length) ((nth vs k).cap), .int .i64 ((nth vs k).v.len), .int .i64 ((nth vs k).v.wid)], .int .i64 ((nth ls k) - 1)]) own55 rfl rfl rfl rfl (later_c (nth vs k).v (nth vs k).ao (nth vs k).b (nth vs k).o (nth vs k).cap ((nth ls k) - 1) _ ((hruns (nth vs k) (nth_mem (by omega))).keep E600 (fun _ h => h)) hrk hbk (by omega)) (fun v602 w603 r605 => ?_)
        obtain ⟨⟨aoC601, bC601, cpC601, rfl, hC601, gebC601⟩, u604⟩ := r605
        have zu604 := u604.size
        exact dzn rfl ⟨(u593.next u604 (fun _ _ h => h.elim)), (fun h => by obtain ⟨us3, bU3, cpU3, bsU3, lmU3, e, hB⟩ := F594 h; exact ⟨us3, bU3, cpU3, bsU3, lmU3, e, fun h2 => ⟨(hB h2).1, (hB h2).2.1, (hB h2).2.2.1, (Nat.le_trans (hB h2).2.2.2.1 u604.size), ((hB h2).2.2.2.2.1.keep u604 (fun _ h => h)), ((hB h2).2.2.2.2.2.keep u604 (fun _ _ _ _ h => h))⟩⟩), (fun _ => ⟨aoC601, bC601, cpC601, rfl, fun _ => ⟨hC601, by omega, fun b l c e => by obtain ⟨us3, bU3, cpU3, bsU3, lmU3, e3, h3⟩ := F594 (hdD 1 rfl); have h4 := (h3 (hcD.late 14 (hcD.late 13 hnD rfl) rfl)).2.2.2.2.1.lt; have e : ρ 1 = _ := e; rw [e3] at e; simp at e; omega⟩⟩), (fun h => absurd ((hcD.late 13 hnD rfl).symm.trans h) (by decide)), (fun h => absurd ((hcD.late 14 hnD rfl).symm.trans h) (by decide)), (fun h => absurd ((hcD.late 17 (hcD.late 14 hnD rfl) rfl).symm.trans h) (by decide)), (fun h => absurd ((hcD.late 18 (hcD.late 14 hnD rfl) rfl).symm.trans h) (by decide))⟩
       ·
        intro D ρ w607 hcD hnD hdD hW
        obtain ⟨u608, F609, F610, F611, F612, F613, F614⟩ := hW
        have zu608 := u608.size
        obtain ⟨aoC493, bC493, cpC493, e616, H617⟩ := F610 (hdD 12 rfl)
        have H618 := H617 hnD
        have hsH618 := H618.1
        have hgH618 := H618.2
        refine ⟨[(167, .agg #[.int .i64 ((heldV (nth vs k).v ((nth ls k) - 1)).st.lo), .int .i64 ((heldV (nth vs k).v ((nth ls k) - 1)).st.hi), .slice aoC493 (((heldV (nth vs k).v ((nth ls k) - 1)).runs).length) cpC493, .int .i64 ((heldV (nth vs k).v ((nth ls k) - 1)).len), .int .i64 ((heldV (nth vs k).v ((nth ls k) - 1)).wid)])], ⟨fi 12 rfl rfl e616.symm, trivial⟩, fun Lr => ?_⟩
        refine t_bslice (ps := [(0, .agg #[.int .i64 ((heldV (nth vs k).v ((nth ls k) - 1)).st.lo), .int .i64 ((heldV (nth vs k).v ((nth ls k) - 1)).st.hi), .slice aoC493 (((heldV (nth vs k).v ((nth ls k) - 1)).runs).length) cpC493, .int .i64 ((heldV (nth vs k).v ((nth ls k) - 1)).len), .int .i64 ((heldV (nth vs k).v ((nth ls k) - 1)).wid)])]) (cs := [.int .i64 ((heldV (nth vs k).v ((nth ls k) - 1)).st.lo), .int .i64 ((heldV (nth vs k).v ((nth ls k) - 1)).st.hi), .slice aoC493 (((heldV (nth vs k).v ((nth ls k) - 1)).runs).length) cpC493, .int .i64 ((heldV (nth vs k).v ((nth ls k) - 1)).len), .int .i64 ((heldV (nth vs k).v ((nth ls k) - 1)).wid)]) (e := 48) rfl rfl ⟨rfl, rfl⟩ (fun w => by kernel_rfl) (fun bk619 w620 ebk619 sbk619 B621 u622 => ?_)
        have zu622 := u622.size
        exact dzn rfl ⟨(u608.next u622 (fun _ _ h => h.elim)), (fun h => by obtain ⟨us3, bU3, cpU3, bsU3, lmU3, e, hB⟩ := F609 h; exact ⟨us3, bU3, cpU3, bsU3, lmU3, e, fun h2 => ⟨(hB h2).1, (hB h2).2.1, (hB h2).2.2.1, (Nat.le_trans (hB h2).2.2.2.1 u622.size), ((hB h2).2.2.2.2.1.keep u622 (fun _ h => h)), ((hB h2).2.2.2.2.2.keep u622 (fun _ _ _ _ h => h))⟩⟩), (fun h => by obtain ⟨aoC493, bC493, cpC493, e, _⟩ := F610 h; exact ⟨aoC493, bC493, cpC493, e, fun h => by cases h⟩), (fun _ => ⟨aoC493, bC493, cpC493, bk619, rfl, (by omega), (by show Blk w620 bk619 48 [.int .i64 ((heldV (nth vs k).v ((nth ls k) - 1)).st.lo), .int .i64 ((heldV (nth vs k).v ((nth ls k) - 1)).st.hi), .slice aoC493 (((heldV (nth vs k).v ((nth ls k) - 1)).runs).length) cpC493, .int .i64 ((heldV (nth vs k).v ((nth ls k) - 1)).len), .int .i64 ((heldV (nth vs k).v ((nth ls k) - 1)).wid)]; exact B621), ⟨(H618.1.keep u622 (fun _ h => h)), H618.2⟩, (fun b l c e => by obtain ⟨us3, bU3, cpU3, bsU3, lmU3, e3, h3⟩ := F609 (hcD 12 (hdD 12 rfl) 1 (memB_iff.1 rfl)); have h4 := (h3 (hcD.late 14 hnD rfl)).2.2.2.2.1.lt; have e : ρ 1 = _ := e; rw [e3] at e; simp at e; omega)⟩), (fun h => absurd ((hcD.late 14 hnD rfl).symm.trans h) (by decide)), (fun h => absurd ((hcD.late 17 (hcD.late 14 hnD rfl) rfl).symm.trans h) (by decide)), (fun h => absurd ((hcD.late 18 (hcD.late 14 hnD rfl) rfl).symm.trans h) (by decide))⟩
       ·
        intro D ρ w624 hcD hnD hdD hW
        obtain ⟨u625, F626, F627, F628, F629, F630, F631⟩ := hW
        have zu625 := u625.size
        obtain ⟨us3, bU3, cpU3, bsU3, lmU3, e633, H634⟩ := F626 (hdD 1 rfl)
        have H635 := H634 hnD
        obtain ⟨mp3, lo3, bb3, ll3, ac3, fm3⟩ := id H635
        have ltb3 := ac3.lt
        obtain ⟨aoC493, bC493, cpC493, bk499, e636, gebk499, B637, fcB637_12, xaB637⟩ := F628 (hdD 13 rfl)
        have hsfcB637_12 := fcB637_12.1
        have hgfcB637_12 := fcB637_12.2
        refine ⟨[(156, .slice (some ⟨bU3, 0, none⟩) us3.length cpU3), (168, .slice (some ⟨bk499, 0, none⟩) 1 1)], ⟨fi 1 rfl rfl e633.symm, fi 13 rfl rfl e636.symm, trivial⟩, fun Lr => ?_⟩
        have hcs := hsfcB637_12
        have hfw := fm3
        have hla := ac3
        have hx3 := hgfcB637_12.2 _ _ _ e633
        have hu3l : us3.length = k := by have h := congrArg List.length mp3; rw [List.length_map, heldL_len] at h; exact h
        refine t_append (z := .agg #[.int .i64 0, .int .i64 0, .slice none 0 0, .int .i64 0, .int .i64 0]) (bytes := 56) (k := 5) (base := bsU3) (⟨heldV (nth vs k).v (nth ls k - 1), aoC493, bC493, 0, cpC493⟩ : HVoy) Try.underlying34 (by kernel_rfl) rfl (by decide) (fun _ => rfl) (by intro x; simp [encHVoy, Value.oneCell']) rfl rfl rfl rfl ac3 B637 (by omega) (by omega) (by decide) (fun ao638 gb639 cp640 w641 A642 u643 gegb639 lngb639 => ?_)
        have zu643 := u643.size
        have lt_gb639 := A642.lt
        have hfn := (hfw.keep u643 (fun i h1 h2 h3 => show ¬ (i = bU3 ∧ bsU3 ≤ i) by omega)).snoc (⟨heldV (nth vs k).v (nth ls k - 1), aoC493, bC493, 0, cpC493⟩ : HVoy) gb639 w641.heap.size (by omega) (hcs.keep u643 (fun hp => by have hlt := hcs.lt hp; have hgt := hgfcB637_12.1; show ¬ (_ ∧ _); omega)) (fun hp => by have hlt := hcs.lt hp; have hgt := hgfcB637_12.1; show bsU3 ≤ bC493 ∧ bC493 ≠ gb639 ∧ bC493 < w641.heap.size; omega) (by omega)
        exact dzn rfl ⟨(u625.next u643 (fun i hi (h : (i = bU3 ∧ bsU3 ≤ i)) => show False by first | omega | assumption)), (fun h => by obtain ⟨us3, bU3, cpU3, bsU3, lmU3, e, _⟩ := F626 h; exact ⟨us3, bU3, cpU3, bsU3, lmU3, e, fun h => by cases h⟩), (fun h => by obtain ⟨aoC493, bC493, cpC493, e, _⟩ := F627 h; exact ⟨aoC493, bC493, cpC493, e, fun h2 => absurd ((hdD 13 rfl).symm.trans h2) (by decide)⟩), (fun h => by obtain ⟨aoC493, bC493, cpC493, b, e, hge, hB, hF12, hXA⟩ := F628 h; have hxa := hXA _ _ _ e633; exact ⟨aoC493, bC493, cpC493, b, e, hge, (hB.keep u643 (show ¬ ((b = bU3 ∧ bsU3 ≤ b)) by first | omega | assumption)), ⟨(hF12.1.keep u643 (fun hp => by have hx := hF12.2.2 _ _ _ e633; show ¬ ((bC493 = bU3 ∧ bsU3 ≤ bC493)); omega)), hF12.2⟩, hXA⟩), (fun _ => ⟨(us3 ++ [(⟨heldV (nth vs k).v (nth ls k - 1), aoC493, bC493, 0, cpC493⟩ : HVoy)]), ao638, gb639, cp640, bsU3, w641.heap.size, rfl, fun _ => ⟨by rw [List.map_append, mp3]; rfl, A642, hfn⟩⟩), (fun h => absurd ((hcD.late 17 hnD rfl).symm.trans h) (by decide)), (fun h => absurd ((hcD.late 18 hnD rfl).symm.trans h) (by decide))⟩
       · exact pzf Try.underlying37 rfl Try.sizeOf35 (1) rfl rfl rfl rfl rfl fun _ _ _ h => h
       · exact fun D ρ w645 hcD hnD hdD hW => ⟨_, kf_fr [170], fun Lr => t_load Try.isAgg35 rfl rfl rfl ((B483.keep hW.1 (fun h => h)).get rfl) (dz rfl hW)⟩
       ·
        intro D ρ w655 hcD hnD hdD hW
        obtain ⟨u656, F657, F658, F659, F660, F661, F662⟩ := hW
        have zu656 := u656.size
        have E663 := E470.next u656 (fun _ _ h => h.elim)
        refine ⟨_, kf_fr [171], fun Lr => ?_⟩
        refine t_call (vs := [.slice an ns.length cn]) own25 rfl rfl rfl rfl (narrows_c ns an bn on cn _ (hn.keep E663 (fun _ h => h)) (by omega)) (fun v664 w665 r667 => ?_)
        obtain ⟨⟨aoN, bN, cpN, rfl, hN, _⟩, u666⟩ := r667
        have zu666 := u666.size
        exact dzn rfl ⟨(u656.next u666 (fun _ _ h => h.elim)), (fun h => by obtain ⟨us3, bU3, cpU3, bsU3, lmU3, e, hB⟩ := F657 h; exact ⟨us3, bU3, cpU3, bsU3, lmU3, e, fun h2 => ⟨(hB h2).1, (hB h2).2.1, (hB h2).2.2.1, (Nat.le_trans (hB h2).2.2.2.1 u666.size), ((hB h2).2.2.2.2.1.keep u666 (fun _ h => h)), ((hB h2).2.2.2.2.2.keep u666 (fun _ _ _ _ h => h))⟩⟩), (fun h => by obtain ⟨aoC493, bC493, cpC493, e, hB⟩ := F658 h; exact ⟨aoC493, bC493, cpC493, e, fun h2 => ⟨((hB h2).1.keep u666 (fun _ h => h)), (hB h2).2⟩⟩), (fun h => by obtain ⟨aoC493, bC493, cpC493, b, e, hge, hB, hF12, hXA⟩ := F659 h; exact ⟨aoC493, bC493, cpC493, b, e, hge, (hB.keep u666 (fun h => h)), ⟨(hF12.1.keep u666 (fun _ h => h)), hF12.2⟩, hXA⟩), (fun h => by obtain ⟨usW, aoW, bW, cpW, bsW, lmW, e, hB⟩ := F660 h; exact ⟨usW, aoW, bW, cpW, bsW, lmW, e, fun h2 => ⟨(hB h2).1, ((hB h2).2.1.keep u666 (fun _ h => h)), ((hB h2).2.2.keep u666 (fun _ _ _ _ h => h))⟩⟩), (fun _ => ⟨aoN, bN, cpN, rfl, fun _ => hN⟩), (fun h => absurd ((hcD.late 18 hnD rfl).symm.trans h) (by decide))⟩
       ·
        intro D ρ w669 hcD hnD hdD hW
        obtain ⟨u670, F671, F672, F673, F674, F675, F676⟩ := hW
        have zu670 := u670.size
        obtain ⟨usW, aoW, bW, cpW, bsW, lmW, e678, H679⟩ := F674 (hdD 14 rfl)
        have H680 := H679 hnD
        obtain ⟨mp4, ac4, fm4⟩ := id H680
        obtain ⟨aoN, bN, cpN, e681, H682⟩ := F675 (hdD 17 rfl)
        have H683 := H682 hnD
        refine ⟨[(169, .slice aoW usW.length cpW), (172, .slice aoN ns.length cpN)], ⟨fi 14 rfl rfl e678.symm, fi 17 rfl rfl e681.symm, trivial⟩, fun Lr => ?_⟩
        refine t_call (vs := [.slice aoW usW.length cpW, .slice aoN ns.length cpN]) own54 rfl rfl rfl rfl (ConfU_c usW aoW bW cpW ns aoN bN 0 cpN (heldL (vs.map HVoy.v) ls k ++ [heldV (nth vs k).v (nth ls k - 1)]) _ mp4 (ac4.sl (fun _ => rfl)) (fun x hx => (fm4 x hx).1) H683 (by rw [List.length_append, heldL_len]; simp; omega) hLl (by omega)) (fun v684 w685 r687 => ?_)
        obtain ⟨⟨ms4, eM4, aoM4, bM4, cpM4, rfl, hHM⟩, u686⟩ := r687
        have zu686 := u686.size
        exact dzn rfl ⟨(u670.next u686 (fun _ _ h => h.elim)), (fun h => by obtain ⟨us3, bU3, cpU3, bsU3, lmU3, e, hB⟩ := F671 h; exact ⟨us3, bU3, cpU3, bsU3, lmU3, e, fun h2 => ⟨(hB h2).1, (hB h2).2.1, (hB h2).2.2.1, (Nat.le_trans (hB h2).2.2.2.1 u686.size), ((hB h2).2.2.2.2.1.keep u686 (fun _ h => h)), ((hB h2).2.2.2.2.2.keep u686 (fun _ _ _ _ h => h))⟩⟩), (fun h => by obtain ⟨aoC493, bC493, cpC493, e, hB⟩ := F672 h; exact ⟨aoC493, bC493, cpC493, e, fun h2 => ⟨((hB h2).1.keep u686 (fun _ h => h)), (hB h2).2⟩⟩), (fun h => by obtain ⟨aoC493, bC493, cpC493, b, e, hge, hB, hF12, hXA⟩ := F673 h; exact ⟨aoC493, bC493, cpC493, b, e, hge, (hB.keep u686 (fun h => h)), ⟨(hF12.1.keep u686 (fun _ h => h)), hF12.2⟩, hXA⟩), (fun h => by obtain ⟨usW, aoW, bW, cpW, bsW, lmW, e, _⟩ := F674 h; exact ⟨usW, aoW, bW, cpW, bsW, lmW, e, fun h => by cases h⟩), (fun h => by obtain ⟨aoN, bN, cpN, e, _⟩ := F675 h; exact ⟨aoN, bN, cpN, e, fun h => by cases h⟩), (fun _ => ⟨ms4, eM4, aoM4, bM4, cpM4, rfl, hHM, (fun h => absurd ((hcD.late 19 hnD rfl).symm.trans h) (by decide)), (fun h => absurd ((hcD.late 20 (hcD.late 19 hnD rfl) rfl).symm.trans h) (by decide)), (fun h => absurd ((hcD.late 21 (hcD.late 19 hnD rfl) rfl).symm.trans h) (by decide)), (fun h => absurd ((hcD.late 22 hnD rfl).symm.trans h) (by decide)), (fun h => absurd ((hcD.late 23 hnD rfl).symm.trans h) (by decide))⟩)⟩
       ·
        intro D ρ w689 hcD hnD hdD hW
        obtain ⟨u690, F691, F692, F693, F694, F695, F696⟩ := hW
        have zu690 := u690.size
        obtain ⟨ms4, eM4, aoM4, bM4, cpM4, e698, H699, k700, k701, k702, k703, k704⟩ := F696 (hdD 18 rfl)
        obtain ⟨hSl4, he4, hmn4, hmc4⟩ := id H699
        refine ⟨[(173, .tuple #[.slice aoM4 ms4.length cpM4, .int .i64 eM4])], ⟨fi 18 rfl rfl e698.symm, trivial⟩, fun Lr => ?_⟩
        refine t_move rfl rfl rfl ?_
        exact dzn rfl ⟨u690, F691, F692, F693, F694, F695, (fun _ => ⟨ms4, eM4, aoM4, bM4, cpM4, e698, H699, (fun _ => rfl), k701, k702, k703, k704⟩)⟩
       ·
        intro D ρ w705 hcD hnD hdD hW
        obtain ⟨u706, F707, F708, F709, F710, F711, F712⟩ := hW
        have zu706 := u706.size
        obtain ⟨ms4, eM4, aoM4, bM4, cpM4, e714, H715, k716, k717, k718, k719, k720⟩ := F712 (hcD 19 (hdD 19 rfl) 18 (memB_iff.1 rfl))
        obtain ⟨hSl4, he4, hmn4, hmc4⟩ := id H715
        refine ⟨[(154, .tuple #[.slice aoM4 ms4.length cpM4, .int .i64 eM4])], ⟨fi 19 rfl rfl (k716 (hdD 19 rfl)).symm, trivial⟩, fun Lr => ?_⟩
        refine t_extract (vs := [.slice aoM4 ms4.length cpM4, .int .i64 eM4]) rfl rfl rfl rfl ?_
        exact dzn rfl ⟨u706, F707, F708, F709, F710, F711, (fun _ => ⟨ms4, eM4, aoM4, bM4, cpM4, e714, H715, k716, (fun _ => rfl), k718, k719, k720⟩)⟩
       ·
        intro D ρ w721 hcD hnD hdD hW
        obtain ⟨u722, F723, F724, F725, F726, F727, F728⟩ := hW
        have zu722 := u722.size
        obtain ⟨ms4, eM4, aoM4, bM4, cpM4, e730, H731, k732, k733, k734, k735, k736⟩ := F728 (hcD 19 (hdD 19 rfl) 18 (memB_iff.1 rfl))
        obtain ⟨hSl4, he4, hmn4, hmc4⟩ := id H731
        refine ⟨[(154, .tuple #[.slice aoM4 ms4.length cpM4, .int .i64 eM4])], ⟨fi 19 rfl rfl (k732 (hdD 19 rfl)).symm, trivial⟩, fun Lr => ?_⟩
        refine t_extract (vs := [.slice aoM4 ms4.length cpM4, .int .i64 eM4]) rfl rfl rfl rfl ?_
        exact dzn rfl ⟨u722, F723, F724, F725, F726, F727, (fun _ => ⟨ms4, eM4, aoM4, bM4, cpM4, e730, H731, k732, k733, (fun _ => rfl), k735, k736⟩)⟩
       ·
        intro D ρ w737 hcD hnD hdD hW
        obtain ⟨u738, F739, F740, F741, F742, F743, F744⟩ := hW
        have zu738 := u738.size
        obtain ⟨ms4, eM4, aoM4, bM4, cpM4, e746, H747, k748, k749, k750, k751, k752⟩ := F744 (hdD 18 rfl)
        obtain ⟨hSl4, he4, hmn4, hmc4⟩ := id H747
        refine ⟨[(174, .slice aoM4 ms4.length cpM4)], ⟨fi 20 rfl rfl (k749 (hdD 20 rfl)).symm, trivial⟩, fun Lr => ?_⟩
        refine t_assign rfl rfl rfl ?_
        exact dzn rfl ⟨u738, F739, F740, F741, F742, F743, (fun _ => ⟨ms4, eM4, aoM4, bM4, cpM4, e746, H747, k748, k749, k750, (fun _ => rfl), k752⟩)⟩
       ·
        intro D ρ w753 hcD hnD hdD hW
        obtain ⟨u754, F755, F756, F757, F758, F759, F760⟩ := hW
        have zu754 := u754.size
        obtain ⟨ms4, eM4, aoM4, bM4, cpM4, e762, H763, k764, k765, k766, k767, k768⟩ := F760 (hdD 18 rfl)
        obtain ⟨hSl4, he4, hmn4, hmc4⟩ := id H763
        refine ⟨[(175, .int .i64 eM4)], ⟨fi 21 rfl rfl (k766 (hdD 21 rfl)).symm, trivial⟩, fun Lr => ?_⟩
        refine t_assign rfl rfl rfl ?_
        exact dzn rfl ⟨u754, F755, F756, F757, F758, F759, (fun _ => ⟨ms4, eM4, aoM4, bM4, cpM4, e762, H763, k764, k765, k766, k767, (fun _ => rfl)⟩)⟩
       intro ρ w769 hW
       obtain ⟨u770, F771, F772, F773, F774, F775, F776⟩ := hW
       have zu770 := u770.size
       have E777 := E470.next u770 (fun _ _ h => h.elim)
       obtain ⟨aoC493, bC493, cpC493, bk499, e780, gebk499, B781, fcB781_12, _⟩ := F773 rfl
       have hsfcB781_12 := fcB781_12.1
       have hgfcB781_12 := fcB781_12.2
       have B781 : Blk w769 bk499 48 [.int .i64 ((heldV (nth vs k).v ((nth ls k) - 1)).st.lo), .int .i64 ((heldV (nth vs k).v ((nth ls k) - 1)).st.hi), .slice aoC493 (((heldV (nth vs k).v ((nth ls k) - 1)).runs).length) cpC493, .int .i64 ((heldV (nth vs k).v ((nth ls k) - 1)).len), .int .i64 ((heldV (nth vs k).v ((nth ls k) - 1)).wid)] := B781
       have lt_bk499 := B781.lt
       obtain ⟨ms4, eM4, aoM4, bM4, cpM4, e784, H785, k786, k787, k788, k789, k790⟩ := F776 rfl
       obtain ⟨hSl4, he4, hmn4, hmc4⟩ := id H785
       refine QK.weak [(1, .int .u8 most), (2, .pointer (some ⟨bk2, 0, none⟩)), (7, .slice aoA ls.length cpA), (10, .slice aoM2 ms2.length cpM2), (12, .int .i64 (sumI (ls.take k))), (13, .slice ao2 us.length c2), (14, .int .i64 (k : Int)), (15, .slice aoM4 ms4.length cpM4), (16, .int .i64 eM4)] ⟨rfl, rfl, rfl, rfl, rfl, rfl, rfl, (look_nd (j := 22) rfl rfl rfl (k789 rfl)), (look_nd (j := 23) rfl rfl rfl (k790 rfl)), trivial⟩ (hK482 _ _ (c_seq fun K791 hK791 => (c_region ?_)))
       have he40 : eM4 = 0 := by
         rw [he4]
         refine open_held hE (by rw [List.length_append, heldL_len]; simp; omega) (fun u hu => ?_)
         rcases List.mem_append.1 hu with h | h
         · obtain ⟨j, hj, rfl⟩ := List.mem_map.1 h
           have hjv : j < vs.length := by have : j < k := by simpa using hj
                                          omega
           have h1 := hst _ (nth_mem hjv)
           have h2 := hLR j hjv
           have h3 := h2.1.1
           exact ⟨nth (vs.map HVoy.v) j, by rw [nth_mapv]; exact List.mem_map.2 ⟨_, nth_mem hjv, rfl⟩, _, rfl, by rw [nth_mapv]; omega, by rw [nth_mapv]; omega⟩
         · rw [List.mem_singleton.1 h]; exact ⟨_, List.mem_map.2 ⟨_, nth_mem hkv, rfl⟩, _, rfl, by omega, by omega⟩
       have hms4 : 0 < ms4.length := by
         rw [hmc4 he40]
         have h5 := held_less (i := k) hLk.1 (by omega)
         rw [nth_mapv] at h5
         exact List.length_pos_iff.2 h5
       refine t_move rfl rfl rfl (t_cmp rfl rfl rfl rfl rfl (t_same 177 (v := .bool false) rfl (congrArg Value.bool (decide_eq_false (by omega))) (t_move rfl rfl rfl (t_move rfl rfl rfl (t_len Try.underlying107 rfl rfl rfl rfl (t_cmp rfl rfl rfl rfl rfl (t_same 181 (v := .bool false) rfl (congrArg Value.bool (decide_eq_false (by omega))) (t_pick_f rfl rfl rfl rfl (t_nil' (hK791 _ _ (c_cond_f rfl (c_skip (hK479 _ _ ?_)))))))))))))
       have B792 := (B483.keep u770 (fun h => h))
       have D808 := (hacc.keep u770 (fun _ h => h))
       refine WC.weak [(1, .int .u8 most), (2, .pointer (some ⟨bk2, 0, none⟩)), (7, .slice aoA ls.length cpA), (10, .slice aoM2 ms2.length cpM2), (12, .int .i64 (sumI (ls.take k))), (13, .slice ao2 us.length c2), (14, .int .i64 (k : Int))] ⟨rfl, rfl, rfl, rfl, rfl, rfl, rfl, trivial⟩ (c_drawnS follows 21 19 [some (183, some (.int .i64 (sumI (ls.take k)))), some (184, some (.slice aoA ls.length cpA)), some (185, some (.int .i64 (k : Int))), some (186, some (.pointer (some ⟨bA, 0 + k * 1, none⟩))), some (187, some (.int .i64 (nth ls k))), some (188, some (.int .i64 ((sumI (ls.take k)) + (nth ls k)))), some (189, some (.slice ao2 us.length c2)), some (190, some (.pointer (some ⟨bk2, 0, none⟩))), some (191, some (.slice av vs.length cv)), some (192, some (.int .i64 (k : Int))), some (193, some (.pointer (some ⟨bv, ov + k * 5, none⟩))), some (194, some (.agg #[.int .i64 ((nth vs k).v.st.lo), .int .i64 ((nth vs k).v.st.hi), .slice ((nth vs k).ao) (((nth vs k).v.runs).length) ((nth vs k).cap), .int .i64 ((nth vs k).v.len), .int .i64 ((nth vs k).v.wid)])), some (195, some (.slice aoA ls.length cpA)), some (196, some (.int .i64 (k : Int))), some (197, some (.pointer (some ⟨bA, 0 + k * 1, none⟩))), some (198, some (.int .i64 (nth ls k))), some (199, none), some (200, none), some (201, none)] [[],[],[],[1,2],[3],[0,4],[],[],[7],[],[8,9],[10],[],[],[12,13],[14],[11,15],[16],[6,17,16],[5,18,0,1,2,3,4,5],[18,19,0,1,2,3,4,5,6,7,8,9,10,11,12,13,14,15,16,17,18,19]] (fun D ρ w => Upd (fun i => (i = g2 ∧ bk454 ≤ i)) w769 w ∧ (D 18 = false → Acc encHVoy 5 48 bk454 w ao2 g2 c2 us) ∧ (D 16 = true → ∃ aoC797 bC797 cpC797, ρ 16 = .agg #[.int .i64 ((heldV (nth vs k).v (nth ls k)).st.lo), .int .i64 ((heldV (nth vs k).v (nth ls k)).st.hi), .slice aoC797 (((heldV (nth vs k).v (nth ls k)).runs).length) cpC797, .int .i64 ((heldV (nth vs k).v (nth ls k)).len), .int .i64 ((heldV (nth vs k).v (nth ls k)).wid)] ∧ (D 17 = false → (Sl encRun 6 w aoC797 bC797 0 (heldV (nth vs k).v (nth ls k)).runs ∧ w769.heap.size ≤ bC797))) ∧ (D 17 = true → ∃ aoC797 bC797 cpC797 bk803, ρ 17 = .slice (some ⟨bk803, 0, none⟩) 1 1 ∧ w769.heap.size ≤ bk803 ∧ Blk w bk803 48 [.int .i64 ((heldV (nth vs k).v (nth ls k)).st.lo), .int .i64 ((heldV (nth vs k).v (nth ls k)).st.hi), .slice aoC797 (((heldV (nth vs k).v (nth ls k)).runs).length) cpC797, .int .i64 ((heldV (nth vs k).v (nth ls k)).len), .int .i64 ((heldV (nth vs k).v (nth ls k)).wid)] ∧ (Sl encRun 6 w aoC797 bC797 0 (heldV (nth vs k).v (nth ls k)).runs ∧ w769.heap.size ≤ bC797)) ∧ (D 18 = true → ∃ aoC797 bC797 cpC797 ao810 gb811 cp812, ρ 18 = .slice ao810 (((us ++ [(⟨heldV (nth vs k).v (nth ls k), aoC797, bC797, 0, cpC797⟩ : HVoy)])).length) cp812 ∧ Acc encHVoy 5 48 bk454 w ao810 gb811 cp812 (us ++ [(⟨heldV (nth vs k).v (nth ls k), aoC797, bC797, 0, cpC797⟩ : HVoy)]) ∧ (gb811 = g2 ∨ w769.heap.size ≤ gb811) ∧ (Sl encRun 6 w aoC797 bC797 0 (heldV (nth vs k).v (nth ls k)).runs ∧ w769.heap.size ≤ bC797) ∧ (0 < ((heldV (nth vs k).v (nth ls k)).runs).length → bC797 ≠ gb811))) rfl rfl rfl rfl (by kernel_rfl) (by kernel_rfl) (by kernel_rfl) ⟨(Upd.drew _).to, (fun _ => D808.keep (Upd.drew _) (fun _ h => h)), (fun h => by cases h), (fun h => by cases h), (fun h => by cases h)⟩ ⟨?_, ?_, ?_, ?_, ?_, ?_, ?_, ?_, ?_, ?_, ?_, ?_, ?_, ?_, ?_, ?_, ?_, ?_, ?_, trivial⟩ ?_)
       · exact pz rfl rfl rfl rfl fun _ _ _ h => h
       · exact pz rfl rfl rfl rfl fun _ _ _ h => h
       · exact pz rfl rfl rfl rfl fun _ _ _ h => h
       · exact fun D ρ w817 hcD hnD hdD hW => ⟨_, kf_fr [184, 185], fun Lr => t_index (j := k) Try.underlying27 Try.sizeOf3 rfl rfl rfl rfl (((D476.keep u770 (fun _ h => h)).keep hW.1 (fun hp => by have hlt := (H255.1).lt hp; show ¬ ((bA = g2 ∧ bk454 ≤ bA)); omega)).addr (by omega)) rfl (by omega) (dz rfl hW)⟩
       · exact fun D ρ w826 hcD hnD hdD hW => ⟨_, kf_fr [186], fun Lr => t_load Try.isAgg3 rfl rfl rfl ((((D476.keep u770 (fun _ h => h)).keep hW.1 (fun hp => by have hlt := (H255.1).lt hp; show ¬ ((bA = g2 ∧ bk454 ≤ bA)); omega)).at_ k (by omega)) 0 _ rfl) (dz rfl hW)⟩
       · exact fun D ρ w834 hcD hnD hdD hW => ⟨_, kf_fr [183, 187], fun Lr => t_ari rfl rfl rfl rfl rfl (by omega) (dz rfl hW)⟩
       · exact pz rfl rfl rfl rfl fun _ _ _ h => h
       · exact pzf Try.underlying37 rfl Try.sizeOf34 (0) rfl rfl rfl rfl rfl fun _ _ _ h => h
       · exact fun D ρ w841 hcD hnD hdD hW => ⟨_, kf_fr [190], fun Lr => t_load Try.isAgg34 rfl rfl rfl ((B792.keep hW.1 (show ¬ ((bk2 = g2 ∧ bk454 ≤ bk2)) by first | omega | assumption)).get rfl) (dz rfl hW)⟩
       · exact pz rfl rfl rfl rfl fun _ _ _ h => h
       ·
        intro D ρ w849 hcD hnD hdD hW
        obtain ⟨u850, C851, F852, F853, F854⟩ := hW
        have zu850 := u850.size
        have E855 := E777.next u850 (fun i hi (h : (i = g2 ∧ bk454 ≤ i)) => show False by first | omega | assumption)
        refine ⟨_, kf_fr [191, 192], fun Lr => ?_⟩
        have i856 : k < vs.length := (by omega)
        refine t_index (j := k) Try.underlying34 Try.sizeOf48 rfl rfl rfl rfl ((hs.keep E855 (fun _ h => h)).addr (by omega)) rfl i856 ?_
        exact dz rfl ⟨u850, C851, F852, F853, F854⟩
       ·
        intro D ρ w857 hcD hnD hdD hW
        obtain ⟨u858, C859, F860, F861, F862⟩ := hW
        have zu858 := u858.size
        have E863 := E777.next u858 (fun i hi (h : (i = g2 ∧ bk454 ≤ i)) => show False by first | omega | assumption)
        refine ⟨_, kf_fr [193], fun Lr => ?_⟩
        refine t_loadN (vs := [.int .i64 ((nth vs k).v.st.lo), .int .i64 ((nth vs k).v.st.hi), .slice ((nth vs k).ao) (((nth vs k).v.runs).length) ((nth vs k).cap), .int .i64 ((nth vs k).v.len), .int .i64 ((nth vs k).v.wid)]) Try.isAgg48 Try.sizeOf48 rfl rfl rfl (((hs.keep E863 (fun _ h => h)).at_ k (by omega)).sub 0 5) rfl ?_
        exact dz rfl ⟨u858, C859, F860, F861, F862⟩
       · exact pz rfl rfl rfl rfl fun _ _ _ h => h
       · exact pz rfl rfl rfl rfl fun _ _ _ h => h
       · exact fun D ρ w864 hcD hnD hdD hW => ⟨_, kf_fr [195, 196], fun Lr => t_index (j := k) Try.underlying27 Try.sizeOf3 rfl rfl rfl rfl (((D476.keep u770 (fun _ h => h)).keep hW.1 (fun hp => by have hlt := (H255.1).lt hp; show ¬ ((bA = g2 ∧ bk454 ≤ bA)); omega)).addr (by omega)) rfl (by omega) (dz rfl hW)⟩
       · exact fun D ρ w873 hcD hnD hdD hW => ⟨_, kf_fr [197], fun Lr => t_load Try.isAgg3 rfl rfl rfl ((((D476.keep u770 (fun _ h => h)).keep hW.1 (fun hp => by have hlt := (H255.1).lt hp; show ¬ ((bA = g2 ∧ bk454 ≤ bA)); omega)).at_ k (by omega)) 0 _ rfl) (dz rfl hW)⟩
       ·
        intro D ρ w881 hcD hnD hdD hW
        obtain ⟨u882, C883, F884, F885, F886⟩ := hW
        have zu882 := u882.size
        have E887 := E777.next u882 (fun i hi (h : (i = g2 ∧ bk454 ≤ i)) => show False by first | omega | assumption)
        refine ⟨_, kf_fr [194, 198], fun Lr => ?_⟩
        refine t_call (vs := [.agg #[.int .i64 ((nth vs k).v.st.lo), .int .i64 ((nth vs k).v.st.hi), .slice ((nth vs k).ao) (((nth vs k).v.runs).length) ((nth vs k).cap), .int .i64 ((nth vs k).v.len), .int .i64 ((nth vs k).v.wid)], .int .i64 (nth ls k)]) own55 rfl rfl rfl rfl (later_c (nth vs k).v (nth vs k).ao (nth vs k).b (nth vs k).o (nth vs k).cap (nth ls k) _ ((hruns (nth vs k) (nth_mem (by omega))).keep E887 (fun _ h => h)) hrk hbk (by omega)) (fun v889 w890 r892 => ?_)
        obtain ⟨⟨aoC888, bC888, cpC888, rfl, hC888, gebC888⟩, u891⟩ := r892
        have zu891 := u891.size
        exact dzn rfl ⟨(u882.next u891 (fun _ _ h => h.elim)), (fun h => ((C883 h).keep u891 (fun _ h => h))), (fun _ => ⟨aoC888, bC888, cpC888, rfl, fun _ => ⟨hC888, by omega⟩⟩), (fun h => absurd ((hcD.late 17 hnD rfl).symm.trans h) (by decide)), (fun h => absurd ((hcD.late 18 hnD rfl).symm.trans h) (by decide))⟩
       ·
        intro D ρ w894 hcD hnD hdD hW
        obtain ⟨u895, C896, F897, F898, F899⟩ := hW
        have zu895 := u895.size
        obtain ⟨aoC797, bC797, cpC797, e901, H902⟩ := F897 (hdD 16 rfl)
        have H903 := H902 hnD
        have hsH903 := H903.1
        have hgH903 := H903.2
        refine ⟨[(199, .agg #[.int .i64 ((heldV (nth vs k).v (nth ls k)).st.lo), .int .i64 ((heldV (nth vs k).v (nth ls k)).st.hi), .slice aoC797 (((heldV (nth vs k).v (nth ls k)).runs).length) cpC797, .int .i64 ((heldV (nth vs k).v (nth ls k)).len), .int .i64 ((heldV (nth vs k).v (nth ls k)).wid)])], ⟨fi 16 rfl rfl e901.symm, trivial⟩, fun Lr => ?_⟩
        refine t_bslice (ps := [(0, .agg #[.int .i64 ((heldV (nth vs k).v (nth ls k)).st.lo), .int .i64 ((heldV (nth vs k).v (nth ls k)).st.hi), .slice aoC797 (((heldV (nth vs k).v (nth ls k)).runs).length) cpC797, .int .i64 ((heldV (nth vs k).v (nth ls k)).len), .int .i64 ((heldV (nth vs k).v (nth ls k)).wid)])]) (cs := [.int .i64 ((heldV (nth vs k).v (nth ls k)).st.lo), .int .i64 ((heldV (nth vs k).v (nth ls k)).st.hi), .slice aoC797 (((heldV (nth vs k).v (nth ls k)).runs).length) cpC797, .int .i64 ((heldV (nth vs k).v (nth ls k)).len), .int .i64 ((heldV (nth vs k).v (nth ls k)).wid)]) (e := 48) rfl rfl ⟨rfl, rfl⟩ (fun w => by kernel_rfl) (fun bk904 w905 ebk904 sbk904 B906 u907 => ?_)
        have zu907 := u907.size
        exact dzn rfl ⟨(u895.next u907 (fun _ _ h => h.elim)), (fun h => ((C896 h).keep u907 (fun _ h => h))), (fun h => by obtain ⟨aoC797, bC797, cpC797, e, _⟩ := F897 h; exact ⟨aoC797, bC797, cpC797, e, fun h => by cases h⟩), (fun _ => ⟨aoC797, bC797, cpC797, bk904, rfl, (by omega), (by show Blk w905 bk904 48 [.int .i64 ((heldV (nth vs k).v (nth ls k)).st.lo), .int .i64 ((heldV (nth vs k).v (nth ls k)).st.hi), .slice aoC797 (((heldV (nth vs k).v (nth ls k)).runs).length) cpC797, .int .i64 ((heldV (nth vs k).v (nth ls k)).len), .int .i64 ((heldV (nth vs k).v (nth ls k)).wid)]; exact B906), ⟨(H903.1.keep u907 (fun _ h => h)), H903.2⟩⟩), (fun h => absurd ((hcD.late 18 hnD rfl).symm.trans h) (by decide))⟩
       ·
        intro D ρ w909 hcD hnD hdD hW
        obtain ⟨u910, C911, F912, F913, F914⟩ := hW
        have zu910 := u910.size
        have C916 := C911 hnD
        obtain ⟨aoC797, bC797, cpC797, bk803, e917, gebk803, B918, fcB918_16⟩ := F913 (hdD 17 rfl)
        have hsfcB918_16 := fcB918_16.1
        have hgfcB918_16 := fcB918_16.2
        refine ⟨[(189, .slice ao2 us.length c2), (200, .slice (some ⟨bk803, 0, none⟩) 1 1)], ⟨fi 6 rfl rfl rfl, fi 17 rfl rfl e917.symm, trivial⟩, fun Lr => ?_⟩
        refine t_append (z := .agg #[.int .i64 0, .int .i64 0, .slice none 0 0, .int .i64 0, .int .i64 0]) (bytes := 56) (k := 5) (base := bk454) (⟨heldV (nth vs k).v (nth ls k), aoC797, bC797, 0, cpC797⟩ : HVoy) Try.underlying34 (by kernel_rfl) rfl (by decide) (fun _ => rfl) (by intro x; simp [encHVoy, Value.oneCell']) rfl rfl rfl rfl C916 B918 (by omega) (by omega) (by decide) (fun ao919 gb920 cp921 w922 A923 u924 gegb920 lngb920 => ?_)
        have zu924 := u924.size
        have lt_gb920 := A923.lt
        exact dzn rfl ⟨(u910.next u924 (fun i hi (h : (i = g2 ∧ bk454 ≤ i)) => show (i = g2 ∧ bk454 ≤ i) by first | omega | assumption)), (fun h => by cases h), (fun h => by obtain ⟨aoC797, bC797, cpC797, e, _⟩ := F912 h; exact ⟨aoC797, bC797, cpC797, e, fun h2 => absurd ((hdD 17 rfl).symm.trans h2) (by decide)⟩), (fun h => by obtain ⟨aoC797, bC797, cpC797, b, e, hge, hB, hF16⟩ := F913 h; exact ⟨aoC797, bC797, cpC797, b, e, hge, (hB.keep u924 (show ¬ ((b = g2 ∧ bk454 ≤ b)) by first | omega | assumption)), ⟨(hF16.1.keep u924 (fun hp => by have hlt := hF16.1.lt hp; have hgg := hF16.2; show ¬ ((bC797 = g2 ∧ bk454 ≤ bC797)); omega)), hF16.2⟩⟩), (fun _ => ⟨aoC797, bC797, cpC797, ao919, gb920, cp921, rfl, A923, (by omega), ⟨(fcB918_16.1.keep u924 (fun hp => by have hlt := fcB918_16.1.lt hp; have hgg := fcB918_16.2; show ¬ ((bC797 = g2 ∧ bk454 ≤ bC797)); omega)), fcB918_16.2⟩, (fun hp => by have hlt := fcB918_16.1.lt hp; omega)⟩)⟩
       intro ρ w926 hW
       obtain ⟨u927, C928, F929, F930, F931⟩ := hW
       have zu927 := u927.size
       clear C928
       obtain ⟨aoC797, bC797, cpC797, ao810, gb811, cp812, e935, A936, gegb811, fcA936_16, xtgb811⟩ := F931 rfl
       have lt_gb811 := A936.lt
       have hsfcA936_16 := fcA936_16.1
       have hgfcA936_16 := fcA936_16.2
       have D937 := ((hfam.keep u770 (fun _ _ _ _ h => h)).keep u927 (fun i h1 h2 h3 => show ¬ ((i = g2 ∧ bk454 ≤ i)) by omega))
       have fm938 := D937.snoc (⟨heldV (nth vs k).v (nth ls k), aoC797, bC797, 0, cpC797⟩ : HVoy) gb811 w926.heap.size (by omega) hsfcA936_16 (fun hp => by have hlt := hsfcA936_16.lt hp; have hx := xtgb811 hp; have hgg := hgfcA936_16; refine ⟨?_, hx, hlt⟩; show bk454 ≤ bC797; omega) (by omega)
       refine t_weak [(1, .int .u8 most), (2, .pointer (some ⟨bk2, 0, none⟩)), (7, .slice aoA ls.length cpA), (10, .slice aoM2 ms2.length cpM2), (14, .int .i64 (k : Int)), (188, .int .i64 ((sumI (ls.take k)) + (nth ls k))), (201, .slice ao810 (((us ++ [(⟨heldV (nth vs k).v (nth ls k), aoC797, bC797, 0, cpC797⟩ : HVoy)])).length) cp812)] ⟨rfl, rfl, rfl, rfl, rfl, rfl, (look_nd (j := 18) rfl rfl rfl e935), trivial⟩ (t_assign rfl rfl rfl (t_assign rfl rfl rfl (t_nil' (hK473 _ _ (c_region (t_move rfl rfl rfl (t_ari rfl rfl rfl rfl rfl (by omega) (t_assign rfl rfl rfl (t_nil' ?_)))))))))
       exact hK461 (k + 1, ao810, gb811, cp812, (us ++ [(⟨heldV (nth vs k).v (nth ls k), aoC797, bC797, 0, cpC797⟩ : HVoy)])) _ _ (by show ls.length - (k + 1) < ls.length - k; omega) ⟨rfl, rfl, rfl, rfl, (congrArg some (congrArg (Value.int .i64) (by show sumI (ls.take k) + nth ls k = sumI (ls.take (k + 1)); rw [take_nth (by omega), sumI_snoc]))), rfl, rfl, trivial⟩ ⟨((u463.next u770 (fun _ _ h => h.elim)).next u927 (fun i hi (h : (i = g2 ∧ bk454 ≤ i)) => show i = bk454 by first | omega | assumption)), (by show (k + 1) ≤ ls.length; omega), (by rw [List.map_append, hum, heldL_succ, nth_mapv]; rfl), (by show (us ++ [_]).length = k + 1; simp [hul]), (by show 0 ≤ sumI (ls.take (k + 1)) ∧ sumI (ls.take (k + 1)) ≤ 255 * ((k + 1 : Nat) : Int); rw [take_nth (by omega), sumI_snoc]; omega), A936, (fm938.mono (by omega))⟩
      ·
       refine c_skip (hK479 _ _ ?_)
       have B939 := ((B452.keep u457 (fun h => h)).keep u463 (show ¬ (bk2 = bk454) by first | omega | assumption))
       refine WC.weak [(1, .int .u8 most), (2, .pointer (some ⟨bk2, 0, none⟩)), (7, .slice aoA ls.length cpA), (10, .slice aoM2 ms2.length cpM2), (12, .int .i64 (sumI (ls.take k))), (13, .slice ao2 us.length c2), (14, .int .i64 (k : Int))] ⟨rfl, rfl, rfl, rfl, rfl, rfl, rfl, trivial⟩ (c_drawnS follows 21 19 [some (183, some (.int .i64 (sumI (ls.take k)))), some (184, some (.slice aoA ls.length cpA)), some (185, some (.int .i64 (k : Int))), some (186, some (.pointer (some ⟨bA, 0 + k * 1, none⟩))), some (187, some (.int .i64 (nth ls k))), some (188, some (.int .i64 ((sumI (ls.take k)) + (nth ls k)))), some (189, some (.slice ao2 us.length c2)), some (190, some (.pointer (some ⟨bk2, 0, none⟩))), some (191, some (.slice av vs.length cv)), some (192, some (.int .i64 (k : Int))), some (193, some (.pointer (some ⟨bv, ov + k * 5, none⟩))), some (194, some (.agg #[.int .i64 ((nth vs k).v.st.lo), .int .i64 ((nth vs k).v.st.hi), .slice ((nth vs k).ao) (((nth vs k).v.runs).length) ((nth vs k).cap), .int .i64 ((nth vs k).v.len), .int .i64 ((nth vs k).v.wid)])), some (195, some (.slice aoA ls.length cpA)), some (196, some (.int .i64 (k : Int))), some (197, some (.pointer (some ⟨bA, 0 + k * 1, none⟩))), some (198, some (.int .i64 (nth ls k))), some (199, none), some (200, none), some (201, none)] [[],[],[],[1,2],[3],[0,4],[],[],[7],[],[8,9],[10],[],[],[12,13],[14],[11,15],[16],[6,17,16],[5,18,0,1,2,3,4,5],[18,19,0,1,2,3,4,5,6,7,8,9,10,11,12,13,14,15,16,17,18,19]] (fun D ρ w => Upd (fun i => (i = g2 ∧ bk454 ≤ i)) w462 w ∧ (D 18 = false → Acc encHVoy 5 48 bk454 w ao2 g2 c2 us) ∧ (D 16 = true → ∃ aoC943 bC943 cpC943, ρ 16 = .agg #[.int .i64 ((heldV (nth vs k).v (nth ls k)).st.lo), .int .i64 ((heldV (nth vs k).v (nth ls k)).st.hi), .slice aoC943 (((heldV (nth vs k).v (nth ls k)).runs).length) cpC943, .int .i64 ((heldV (nth vs k).v (nth ls k)).len), .int .i64 ((heldV (nth vs k).v (nth ls k)).wid)] ∧ (D 17 = false → (Sl encRun 6 w aoC943 bC943 0 (heldV (nth vs k).v (nth ls k)).runs ∧ w462.heap.size ≤ bC943))) ∧ (D 17 = true → ∃ aoC943 bC943 cpC943 bk949, ρ 17 = .slice (some ⟨bk949, 0, none⟩) 1 1 ∧ w462.heap.size ≤ bk949 ∧ Blk w bk949 48 [.int .i64 ((heldV (nth vs k).v (nth ls k)).st.lo), .int .i64 ((heldV (nth vs k).v (nth ls k)).st.hi), .slice aoC943 (((heldV (nth vs k).v (nth ls k)).runs).length) cpC943, .int .i64 ((heldV (nth vs k).v (nth ls k)).len), .int .i64 ((heldV (nth vs k).v (nth ls k)).wid)] ∧ (Sl encRun 6 w aoC943 bC943 0 (heldV (nth vs k).v (nth ls k)).runs ∧ w462.heap.size ≤ bC943)) ∧ (D 18 = true → ∃ aoC943 bC943 cpC943 ao955 gb956 cp957, ρ 18 = .slice ao955 (((us ++ [(⟨heldV (nth vs k).v (nth ls k), aoC943, bC943, 0, cpC943⟩ : HVoy)])).length) cp957 ∧ Acc encHVoy 5 48 bk454 w ao955 gb956 cp957 (us ++ [(⟨heldV (nth vs k).v (nth ls k), aoC943, bC943, 0, cpC943⟩ : HVoy)]) ∧ (gb956 = g2 ∨ w462.heap.size ≤ gb956) ∧ (Sl encRun 6 w aoC943 bC943 0 (heldV (nth vs k).v (nth ls k)).runs ∧ w462.heap.size ≤ bC943) ∧ (0 < ((heldV (nth vs k).v (nth ls k)).runs).length → bC943 ≠ gb956))) rfl rfl rfl rfl (by kernel_rfl) (by kernel_rfl) (by kernel_rfl) ⟨(Upd.drew _).to, (fun _ => hacc.keep (Upd.drew _) (fun _ h => h)), (fun h => by cases h), (fun h => by cases h), (fun h => by cases h)⟩ ⟨?_, ?_, ?_, ?_, ?_, ?_, ?_, ?_, ?_, ?_, ?_, ?_, ?_, ?_, ?_, ?_, ?_, ?_, ?_, trivial⟩ ?_)
       · exact pz rfl rfl rfl rfl fun _ _ _ h => h
       · exact pz rfl rfl rfl rfl fun _ _ _ h => h
       · exact pz rfl rfl rfl rfl fun _ _ _ h => h
       · exact fun D ρ w962 hcD hnD hdD hW => ⟨_, kf_fr [184, 185], fun Lr => t_index (j := k) Try.underlying27 Try.sizeOf3 rfl rfl rfl rfl ((D476.keep hW.1 (fun hp => by have hlt := (H255.1).lt hp; show ¬ ((bA = g2 ∧ bk454 ≤ bA)); omega)).addr (by omega)) rfl (by omega) (dz rfl hW)⟩
       · exact fun D ρ w971 hcD hnD hdD hW => ⟨_, kf_fr [186], fun Lr => t_load Try.isAgg3 rfl rfl rfl (((D476.keep hW.1 (fun hp => by have hlt := (H255.1).lt hp; show ¬ ((bA = g2 ∧ bk454 ≤ bA)); omega)).at_ k (by omega)) 0 _ rfl) (dz rfl hW)⟩
       · exact fun D ρ w979 hcD hnD hdD hW => ⟨_, kf_fr [183, 187], fun Lr => t_ari rfl rfl rfl rfl rfl (by omega) (dz rfl hW)⟩
       · exact pz rfl rfl rfl rfl fun _ _ _ h => h
       · exact pzf Try.underlying37 rfl Try.sizeOf34 (0) rfl rfl rfl rfl rfl fun _ _ _ h => h
       · exact fun D ρ w986 hcD hnD hdD hW => ⟨_, kf_fr [190], fun Lr => t_load Try.isAgg34 rfl rfl rfl ((B939.keep hW.1 (show ¬ ((bk2 = g2 ∧ bk454 ≤ bk2)) by first | omega | assumption)).get rfl) (dz rfl hW)⟩
       · exact pz rfl rfl rfl rfl fun _ _ _ h => h
       ·
        intro D ρ w994 hcD hnD hdD hW
        obtain ⟨u995, C996, F997, F998, F999⟩ := hW
        have zu995 := u995.size
        have E1000 := E470.next u995 (fun i hi (h : (i = g2 ∧ bk454 ≤ i)) => show False by first | omega | assumption)
        refine ⟨_, kf_fr [191, 192], fun Lr => ?_⟩
        have i1001 : k < vs.length := (by omega)
        refine t_index (j := k) Try.underlying34 Try.sizeOf48 rfl rfl rfl rfl ((hs.keep E1000 (fun _ h => h)).addr (by omega)) rfl i1001 ?_
        exact dz rfl ⟨u995, C996, F997, F998, F999⟩
       ·
        intro D ρ w1002 hcD hnD hdD hW
        obtain ⟨u1003, C1004, F1005, F1006, F1007⟩ := hW
        have zu1003 := u1003.size
        have E1008 := E470.next u1003 (fun i hi (h : (i = g2 ∧ bk454 ≤ i)) => show False by first | omega | assumption)
        refine ⟨_, kf_fr [193], fun Lr => ?_⟩
        refine t_loadN (vs := [.int .i64 ((nth vs k).v.st.lo), .int .i64 ((nth vs k).v.st.hi), .slice ((nth vs k).ao) (((nth vs k).v.runs).length) ((nth vs k).cap), .int .i64 ((nth vs k).v.len), .int .i64 ((nth vs k).v.wid)]) Try.isAgg48 Try.sizeOf48 rfl rfl rfl (((hs.keep E1008 (fun _ h => h)).at_ k (by omega)).sub 0 5) rfl ?_
        exact dz rfl ⟨u1003, C1004, F1005, F1006, F1007⟩
       · exact pz rfl rfl rfl rfl fun _ _ _ h => h
       · exact pz rfl rfl rfl rfl fun _ _ _ h => h
       · exact fun D ρ w1009 hcD hnD hdD hW => ⟨_, kf_fr [195, 196], fun Lr => t_index (j := k) Try.underlying27 Try.sizeOf3 rfl rfl rfl rfl ((D476.keep hW.1 (fun hp => by have hlt := (H255.1).lt hp; show ¬ ((bA = g2 ∧ bk454 ≤ bA)); omega)).addr (by omega)) rfl (by omega) (dz rfl hW)⟩
       · exact fun D ρ w1018 hcD hnD hdD hW => ⟨_, kf_fr [197], fun Lr => t_load Try.isAgg3 rfl rfl rfl (((D476.keep hW.1 (fun hp => by have hlt := (H255.1).lt hp; show ¬ ((bA = g2 ∧ bk454 ≤ bA)); omega)).at_ k (by omega)) 0 _ rfl) (dz rfl hW)⟩
       ·
        intro D ρ w1026 hcD hnD hdD hW
        obtain ⟨u1027, C1028, F1029, F1030, F1031⟩ := hW
        have zu1027 := u1027.size
        have E1032 := E470.next u1027 (fun i hi (h : (i = g2 ∧ bk454 ≤ i)) => show False by first | omega | assumption)
        refine ⟨_, kf_fr [194, 198], fun Lr => ?_⟩
        refine t_call (vs := [.agg #[.int .i64 ((nth vs k).v.st.lo), .int .i64 ((nth vs k).v.st.hi), .slice ((nth vs k).ao) (((nth vs k).v.runs).length) ((nth vs k).cap), .int .i64 ((nth vs k).v.len), .int .i64 ((nth vs k).v.wid)], .int .i64 (nth ls k)]) own55 rfl rfl rfl rfl (later_c (nth vs k).v (nth vs k).ao (nth vs k).b (nth vs k).o (nth vs k).cap (nth ls k) _ ((hruns (nth vs k) (nth_mem (by omega))).keep E1032 (fun _ h => h)) hrk hbk (by omega)) (fun v1034 w1035 r1037 => ?_)
        obtain ⟨⟨aoC1033, bC1033, cpC1033, rfl, hC1033, gebC1033⟩, u1036⟩ := r1037
        have zu1036 := u1036.size
        exact dzn rfl ⟨(u1027.next u1036 (fun _ _ h => h.elim)), (fun h => ((C1028 h).keep u1036 (fun _ h => h))), (fun _ => ⟨aoC1033, bC1033, cpC1033, rfl, fun _ => ⟨hC1033, by omega⟩⟩), (fun h => absurd ((hcD.late 17 hnD rfl).symm.trans h) (by decide)), (fun h => absurd ((hcD.late 18 hnD rfl).symm.trans h) (by decide))⟩
       ·
        intro D ρ w1039 hcD hnD hdD hW
        obtain ⟨u1040, C1041, F1042, F1043, F1044⟩ := hW
        have zu1040 := u1040.size
        obtain ⟨aoC943, bC943, cpC943, e1046, H1047⟩ := F1042 (hdD 16 rfl)
        have H1048 := H1047 hnD
        have hsH1048 := H1048.1
        have hgH1048 := H1048.2
        refine ⟨[(199, .agg #[.int .i64 ((heldV (nth vs k).v (nth ls k)).st.lo), .int .i64 ((heldV (nth vs k).v (nth ls k)).st.hi), .slice aoC943 (((heldV (nth vs k).v (nth ls k)).runs).length) cpC943, .int .i64 ((heldV (nth vs k).v (nth ls k)).len), .int .i64 ((heldV (nth vs k).v (nth ls k)).wid)])], ⟨fi 16 rfl rfl e1046.symm, trivial⟩, fun Lr => ?_⟩
        refine t_bslice (ps := [(0, .agg #[.int .i64 ((heldV (nth vs k).v (nth ls k)).st.lo), .int .i64 ((heldV (nth vs k).v (nth ls k)).st.hi), .slice aoC943 (((heldV (nth vs k).v (nth ls k)).runs).length) cpC943, .int .i64 ((heldV (nth vs k).v (nth ls k)).len), .int .i64 ((heldV (nth vs k).v (nth ls k)).wid)])]) (cs := [.int .i64 ((heldV (nth vs k).v (nth ls k)).st.lo), .int .i64 ((heldV (nth vs k).v (nth ls k)).st.hi), .slice aoC943 (((heldV (nth vs k).v (nth ls k)).runs).length) cpC943, .int .i64 ((heldV (nth vs k).v (nth ls k)).len), .int .i64 ((heldV (nth vs k).v (nth ls k)).wid)]) (e := 48) rfl rfl ⟨rfl, rfl⟩ (fun w => by kernel_rfl) (fun bk1049 w1050 ebk1049 sbk1049 B1051 u1052 => ?_)
        have zu1052 := u1052.size
        exact dzn rfl ⟨(u1040.next u1052 (fun _ _ h => h.elim)), (fun h => ((C1041 h).keep u1052 (fun _ h => h))), (fun h => by obtain ⟨aoC943, bC943, cpC943, e, _⟩ := F1042 h; exact ⟨aoC943, bC943, cpC943, e, fun h => by cases h⟩), (fun _ => ⟨aoC943, bC943, cpC943, bk1049, rfl, (by omega), (by show Blk w1050 bk1049 48 [.int .i64 ((heldV (nth vs k).v (nth ls k)).st.lo), .int .i64 ((heldV (nth vs k).v (nth ls k)).st.hi), .slice aoC943 (((heldV (nth vs k).v (nth ls k)).runs).length) cpC943, .int .i64 ((heldV (nth vs k).v (nth ls k)).len), .int .i64 ((heldV (nth vs k).v (nth ls k)).wid)]; exact B1051), ⟨(H1048.1.keep u1052 (fun _ h => h)), H1048.2⟩⟩), (fun h => absurd ((hcD.late 18 hnD rfl).symm.trans h) (by decide))⟩
       ·
        intro D ρ w1054 hcD hnD hdD hW
        obtain ⟨u1055, C1056, F1057, F1058, F1059⟩ := hW
        have zu1055 := u1055.size
        have C1061 := C1056 hnD
        obtain ⟨aoC943, bC943, cpC943, bk949, e1062, gebk949, B1063, fcB1063_16⟩ := F1058 (hdD 17 rfl)
        have hsfcB1063_16 := fcB1063_16.1
        have hgfcB1063_16 := fcB1063_16.2
        refine ⟨[(189, .slice ao2 us.length c2), (200, .slice (some ⟨bk949, 0, none⟩) 1 1)], ⟨fi 6 rfl rfl rfl, fi 17 rfl rfl e1062.symm, trivial⟩, fun Lr => ?_⟩
        refine t_append (z := .agg #[.int .i64 0, .int .i64 0, .slice none 0 0, .int .i64 0, .int .i64 0]) (bytes := 56) (k := 5) (base := bk454) (⟨heldV (nth vs k).v (nth ls k), aoC943, bC943, 0, cpC943⟩ : HVoy) Try.underlying34 (by kernel_rfl) rfl (by decide) (fun _ => rfl) (by intro x; simp [encHVoy, Value.oneCell']) rfl rfl rfl rfl C1061 B1063 (by omega) (by omega) (by decide) (fun ao1064 gb1065 cp1066 w1067 A1068 u1069 gegb1065 lngb1065 => ?_)
        have zu1069 := u1069.size
        have lt_gb1065 := A1068.lt
        exact dzn rfl ⟨(u1055.next u1069 (fun i hi (h : (i = g2 ∧ bk454 ≤ i)) => show (i = g2 ∧ bk454 ≤ i) by first | omega | assumption)), (fun h => by cases h), (fun h => by obtain ⟨aoC943, bC943, cpC943, e, _⟩ := F1057 h; exact ⟨aoC943, bC943, cpC943, e, fun h2 => absurd ((hdD 17 rfl).symm.trans h2) (by decide)⟩), (fun h => by obtain ⟨aoC943, bC943, cpC943, b, e, hge, hB, hF16⟩ := F1058 h; exact ⟨aoC943, bC943, cpC943, b, e, hge, (hB.keep u1069 (show ¬ ((b = g2 ∧ bk454 ≤ b)) by first | omega | assumption)), ⟨(hF16.1.keep u1069 (fun hp => by have hlt := hF16.1.lt hp; have hgg := hF16.2; show ¬ ((bC943 = g2 ∧ bk454 ≤ bC943)); omega)), hF16.2⟩⟩), (fun _ => ⟨aoC943, bC943, cpC943, ao1064, gb1065, cp1066, rfl, A1068, (by omega), ⟨(fcB1063_16.1.keep u1069 (fun hp => by have hlt := fcB1063_16.1.lt hp; have hgg := fcB1063_16.2; show ¬ ((bC943 = g2 ∧ bk454 ≤ bC943)); omega)), fcB1063_16.2⟩, (fun hp => by have hlt := fcB1063_16.1.lt hp; omega)⟩)⟩
       intro ρ w1071 hW
       obtain ⟨u1072, C1073, F1074, F1075, F1076⟩ := hW
       have zu1072 := u1072.size
       clear C1073
       obtain ⟨aoC943, bC943, cpC943, ao955, gb956, cp957, e1080, A1081, gegb956, fcA1081_16, xtgb956⟩ := F1076 rfl
       have lt_gb956 := A1081.lt
       have hsfcA1081_16 := fcA1081_16.1
       have hgfcA1081_16 := fcA1081_16.2
       have D1082 := (hfam.keep u1072 (fun i h1 h2 h3 => show ¬ ((i = g2 ∧ bk454 ≤ i)) by omega))
       have fm1083 := D1082.snoc (⟨heldV (nth vs k).v (nth ls k), aoC943, bC943, 0, cpC943⟩ : HVoy) gb956 w1071.heap.size (by omega) hsfcA1081_16 (fun hp => by have hlt := hsfcA1081_16.lt hp; have hx := xtgb956 hp; have hgg := hgfcA1081_16; refine ⟨?_, hx, hlt⟩; show bk454 ≤ bC943; omega) (by omega)
       refine t_weak [(1, .int .u8 most), (2, .pointer (some ⟨bk2, 0, none⟩)), (7, .slice aoA ls.length cpA), (10, .slice aoM2 ms2.length cpM2), (14, .int .i64 (k : Int)), (188, .int .i64 ((sumI (ls.take k)) + (nth ls k))), (201, .slice ao955 (((us ++ [(⟨heldV (nth vs k).v (nth ls k), aoC943, bC943, 0, cpC943⟩ : HVoy)])).length) cp957)] ⟨rfl, rfl, rfl, rfl, rfl, rfl, (look_nd (j := 18) rfl rfl rfl e1080), trivial⟩ (t_assign rfl rfl rfl (t_assign rfl rfl rfl (t_nil' (hK473 _ _ (c_region (t_move rfl rfl rfl (t_ari rfl rfl rfl rfl rfl (by omega) (t_assign rfl rfl rfl (t_nil' ?_)))))))))
       exact hK461 (k + 1, ao955, gb956, cp957, (us ++ [(⟨heldV (nth vs k).v (nth ls k), aoC943, bC943, 0, cpC943⟩ : HVoy)])) _ _ (by show ls.length - (k + 1) < ls.length - k; omega) ⟨rfl, rfl, rfl, rfl, (congrArg some (congrArg (Value.int .i64) (by show sumI (ls.take k) + nth ls k = sumI (ls.take (k + 1)); rw [take_nth (by omega), sumI_snoc]))), rfl, rfl, trivial⟩ ⟨(u463.next u1072 (fun i hi (h : (i = g2 ∧ bk454 ≤ i)) => show i = bk454 by first | omega | assumption)), (by show (k + 1) ≤ ls.length; omega), (by rw [List.map_append, hum, heldL_succ, nth_mapv]; rfl), (by show (us ++ [_]).length = k + 1; simp [hul]), (by show 0 ≤ sumI (ls.take (k + 1)) ∧ sumI (ls.take (k + 1)) ≤ 255 * ((k + 1 : Nat) : Int); rw [take_nth (by omega), sumI_snoc]; omega), A1081, (fm1083.mono (by omega))⟩
     ·
      have hkv : k = vs.length := by omega
      have hrlu : ∀ x ∈ us, x.v.runs.length ≤ 1000000 := held_runs hum hrl (by omega)
      have hHl : ∀ v ∈ heldL (vs.map HVoy.v) ls k, v.runs.length ≤ 1000000 := fun v hv => by rw [← hum] at hv; obtain ⟨x, hx, rfl⟩ := List.mem_map.1 hv; exact hrlu x hx
      refine c_exit (hK459 _ _ (c_seq fun K1084 hK1084 => ?_))
      have B1085 := ((B452.keep u457 (fun h => h)).keep u463 (show ¬ (bk2 = bk454) by first | omega | assumption))
      refine WC.weak [(2, .pointer (some ⟨bk2, 0, none⟩)), (10, .slice aoM2 ms2.length cpM2), (12, .int .i64 (sumI (ls.take k))), (13, .slice ao2 us.length c2)] ⟨rfl, rfl, rfl, rfl, trivial⟩ (c_drawn follows 11 [some (203, some (.slice ao2 us.length c2)), some (204, none), some (205, some (.pointer (some ⟨bk2, 1, none⟩))), some (206, some (.slice an ns.length cn)), some (207, none), some (208, none), some (202, none), some (209, none), some (210, none), some (17, none), some (9, none)] [[],[0],[],[2],[3,1],[1,4,4],[5],[6],[6],[7,5,0,1,2,3,4,5,6,7],[8,9,0,1,2,3,4,5,6,7,8,9]] (fun D ρ w => Upd (fun _ => False) w462 w ∧ (D 1 = true → ∃ us5 bU5 cpU5 bsU5 lmU5, ρ 1 = .slice (some ⟨bU5, 0, none⟩) us5.length cpU5 ∧ (D 5 = false → (us5.map HVoy.v = heldL (vs.map HVoy.v) ls k ∧ w462.heap.size ≤ bsU5 ∧ bsU5 ≤ bU5 ∧ lmU5 ≤ w.heap.size ∧ Acc encHVoy 5 48 bsU5 w (some ⟨bU5, 0, none⟩) bU5 cpU5 us5 ∧ Fam encRun 6 HVoy.ao HVoy.b HVoy.o (fun x : HVoy => x.v.runs) bsU5 bU5 lmU5 us5 w))) ∧ (D 4 = true → ∃ aoN bN cpN, ρ 4 = .slice aoN ns.length cpN ∧ (D 5 = false → Sl encNar 4 w aoN bN 0 ns)) ∧ (D 5 = true → ∃ ms5 eM5 aoM5 bM5 cpM5, ρ 5 = .tuple #[.slice aoM5 ms5.length cpM5, .int .i64 eM5] ∧ (Sl encMt 3 w aoM5 bM5 0 ms5 ∧ eM5 = OpenE (heldL (vs.map HVoy.v) ls k) ns ∧ (eM5 ≠ 0 → ms5 = []) ∧ (eM5 = 0 → ms5 = confL (heldL (vs.map HVoy.v) ls k) ns)) ∧ (D 6 = true → ρ 6 = .tuple #[.slice aoM5 ms5.length cpM5, .int .i64 eM5]) ∧ (D 7 = true → ρ 7 = .slice aoM5 ms5.length cpM5) ∧ (D 8 = true → ρ 8 = .int .i64 eM5) ∧ (D 9 = true → ρ 9 = .slice aoM5 ms5.length cpM5) ∧ (D 10 = true → ρ 10 = .int .i64 eM5))) rfl rfl rfl (by kernel_rfl) (by kernel_rfl) ⟨(Upd.drew _).to, (fun h => by cases h), (fun h => by cases h), (fun h => by cases h)⟩ ⟨?_, ?_, ?_, ?_, ?_, ?_, ?_, ?_, ?_, ?_, ?_, trivial⟩ ?_)
      · exact pz rfl rfl rfl rfl fun _ _ _ h => h
      ·
       intro D ρ w1104 hcD hnD hdD hW
       obtain ⟨u1105, F1106, F1107, F1108⟩ := hW
       have zu1105 := u1105.size
       refine ⟨_, kf_fr [203], fun Lr => ?_⟩
       have D1110 := (hacc.keep u1105 (fun _ h => h))
       have D1111 := (hfam.keep u1105 (fun _ _ _ _ h => h))
       refine t_call (vs := [.slice ao2 us.length c2]) own24 rfl rfl rfl rfl (allA_c us ao2 g2 0 c2 _ (D1110.sl (fun _ => rfl)) (fun x hx => (D1111 x hx).1) (by omega) hrlu) (fun v1112 w1113 r1115 => ?_)
       obtain ⟨⟨us5, bU5, cpU5, bsU5, rfl, mpX5, acX5, fmX5, loX5, bbX5⟩, u1114⟩ := r1115
       have zu1114 := u1114.size
       exact dzn rfl ⟨(u1105.next u1114 (fun _ _ h => h.elim)), (fun _ => ⟨us5, bU5, cpU5, bsU5, w1113.heap.size, rfl, fun _ => ⟨mpX5.trans hum, by omega, bbX5, Nat.le_refl _, acX5, fmX5⟩⟩), (fun h => absurd ((hcD.late 4 hnD rfl).symm.trans h) (by decide)), (fun h => absurd ((hcD.late 5 hnD rfl).symm.trans h) (by decide))⟩
      · exact pzf Try.underlying37 rfl Try.sizeOf35 (1) rfl rfl rfl rfl rfl fun _ _ _ h => h
      · exact fun D ρ w1117 hcD hnD hdD hW => ⟨_, kf_fr [205], fun Lr => t_load Try.isAgg35 rfl rfl rfl ((B1085.keep hW.1 (fun h => h)).get rfl) (dz rfl hW)⟩
      ·
       intro D ρ w1124 hcD hnD hdD hW
       obtain ⟨u1125, F1126, F1127, F1128⟩ := hW
       have zu1125 := u1125.size
       have E1129 := E470.next u1125 (fun _ _ h => h.elim)
       refine ⟨_, kf_fr [206], fun Lr => ?_⟩
       refine t_call (vs := [.slice an ns.length cn]) own25 rfl rfl rfl rfl (narrows_c ns an bn on cn _ (hn.keep E1129 (fun _ h => h)) (by omega)) (fun v1130 w1131 r1133 => ?_)
       obtain ⟨⟨aoN, bN, cpN, rfl, hN, _⟩, u1132⟩ := r1133
       have zu1132 := u1132.size
       exact dzn rfl ⟨(u1125.next u1132 (fun _ _ h => h.elim)), (fun h => by obtain ⟨us5, bU5, cpU5, bsU5, lmU5, e, hB⟩ := F1126 h; exact ⟨us5, bU5, cpU5, bsU5, lmU5, e, fun h2 => ⟨(hB h2).1, (hB h2).2.1, (hB h2).2.2.1, (Nat.le_trans (hB h2).2.2.2.1 u1132.size), ((hB h2).2.2.2.2.1.keep u1132 (fun _ h => h)), ((hB h2).2.2.2.2.2.keep u1132 (fun _ _ _ _ h => h))⟩⟩), (fun _ => ⟨aoN, bN, cpN, rfl, fun _ => hN⟩), (fun h => absurd ((hcD.late 5 hnD rfl).symm.trans h) (by decide))⟩
      ·
       intro D ρ w1135 hcD hnD hdD hW
       obtain ⟨u1136, F1137, F1138, F1139⟩ := hW
       have zu1136 := u1136.size
       obtain ⟨us5, bU5, cpU5, bsU5, lmU5, e1141, H1142⟩ := F1137 (hdD 1 rfl)
       have H1143 := H1142 hnD
       obtain ⟨mp5, lo5, bb5, ll5, ac5, fm5⟩ := id H1143
       have ltb5 := ac5.lt
       obtain ⟨aoN, bN, cpN, e1144, H1145⟩ := F1138 (hdD 4 rfl)
       have H1146 := H1145 hnD
       refine ⟨[(204, .slice (some ⟨bU5, 0, none⟩) us5.length cpU5), (207, .slice aoN ns.length cpN)], ⟨fi 1 rfl rfl e1141.symm, fi 4 rfl rfl e1144.symm, trivial⟩, fun Lr => ?_⟩
       refine t_call (vs := [.slice (some ⟨bU5, 0, none⟩) us5.length cpU5, .slice aoN ns.length cpN]) own54 rfl rfl rfl rfl (ConfU_c us5 (some ⟨bU5, 0, none⟩) bU5 cpU5 ns aoN bN 0 cpN (heldL (vs.map HVoy.v) ls k) _ mp5 (ac5.sl (fun _ => rfl)) (fun x hx => (fm5 x hx).1) H1146 (by rw [heldL_len]; omega) hHl (by omega)) (fun v1147 w1148 r1150 => ?_)
       obtain ⟨⟨ms5, eM5, aoM5, bM5, cpM5, rfl, hHM⟩, u1149⟩ := r1150
       have zu1149 := u1149.size
       exact dzn rfl ⟨(u1136.next u1149 (fun _ _ h => h.elim)), (fun h => by obtain ⟨us5, bU5, cpU5, bsU5, lmU5, e, _⟩ := F1137 h; exact ⟨us5, bU5, cpU5, bsU5, lmU5, e, fun h => by cases h⟩), (fun h => by obtain ⟨aoN, bN, cpN, e, _⟩ := F1138 h; exact ⟨aoN, bN, cpN, e, fun h => by cases h⟩), (fun _ => ⟨ms5, eM5, aoM5, bM5, cpM5, rfl, hHM, (fun h => absurd ((hcD.late 6 hnD rfl).symm.trans h) (by decide)), (fun h => absurd ((hcD.late 7 (hcD.late 6 hnD rfl) rfl).symm.trans h) (by decide)), (fun h => absurd ((hcD.late 8 (hcD.late 6 hnD rfl) rfl).symm.trans h) (by decide)), (fun h => absurd ((hcD.late 9 hnD rfl).symm.trans h) (by decide)), (fun h => absurd ((hcD.late 10 hnD rfl).symm.trans h) (by decide))⟩)⟩
      ·
       intro D ρ w1152 hcD hnD hdD hW
       obtain ⟨u1153, F1154, F1155, F1156⟩ := hW
       have zu1153 := u1153.size
       obtain ⟨ms5, eM5, aoM5, bM5, cpM5, e1158, H1159, k1160, k1161, k1162, k1163, k1164⟩ := F1156 (hdD 5 rfl)
       obtain ⟨hSl5, he5, hmn5, hmc5⟩ := id H1159
       refine ⟨[(208, .tuple #[.slice aoM5 ms5.length cpM5, .int .i64 eM5])], ⟨fi 5 rfl rfl e1158.symm, trivial⟩, fun Lr => ?_⟩
       refine t_move rfl rfl rfl ?_
       exact dzn rfl ⟨u1153, F1154, F1155, (fun _ => ⟨ms5, eM5, aoM5, bM5, cpM5, e1158, H1159, (fun _ => rfl), k1161, k1162, k1163, k1164⟩)⟩
      ·
       intro D ρ w1165 hcD hnD hdD hW
       obtain ⟨u1166, F1167, F1168, F1169⟩ := hW
       have zu1166 := u1166.size
       obtain ⟨ms5, eM5, aoM5, bM5, cpM5, e1171, H1172, k1173, k1174, k1175, k1176, k1177⟩ := F1169 (hcD 6 (hdD 6 rfl) 5 (memB_iff.1 rfl))
       obtain ⟨hSl5, he5, hmn5, hmc5⟩ := id H1172
       refine ⟨[(202, .tuple #[.slice aoM5 ms5.length cpM5, .int .i64 eM5])], ⟨fi 6 rfl rfl (k1173 (hdD 6 rfl)).symm, trivial⟩, fun Lr => ?_⟩
       refine t_extract (vs := [.slice aoM5 ms5.length cpM5, .int .i64 eM5]) rfl rfl rfl rfl ?_
       exact dzn rfl ⟨u1166, F1167, F1168, (fun _ => ⟨ms5, eM5, aoM5, bM5, cpM5, e1171, H1172, k1173, (fun _ => rfl), k1175, k1176, k1177⟩)⟩
      ·
       intro D ρ w1178 hcD hnD hdD hW
       obtain ⟨u1179, F1180, F1181, F1182⟩ := hW
       have zu1179 := u1179.size
       obtain ⟨ms5, eM5, aoM5, bM5, cpM5, e1184, H1185, k1186, k1187, k1188, k1189, k1190⟩ := F1182 (hcD 6 (hdD 6 rfl) 5 (memB_iff.1 rfl))
       obtain ⟨hSl5, he5, hmn5, hmc5⟩ := id H1185
       refine ⟨[(202, .tuple #[.slice aoM5 ms5.length cpM5, .int .i64 eM5])], ⟨fi 6 rfl rfl (k1186 (hdD 6 rfl)).symm, trivial⟩, fun Lr => ?_⟩
       refine t_extract (vs := [.slice aoM5 ms5.length cpM5, .int .i64 eM5]) rfl rfl rfl rfl ?_
       exact dzn rfl ⟨u1179, F1180, F1181, (fun _ => ⟨ms5, eM5, aoM5, bM5, cpM5, e1184, H1185, k1186, k1187, (fun _ => rfl), k1189, k1190⟩)⟩
      ·
       intro D ρ w1191 hcD hnD hdD hW
       obtain ⟨u1192, F1193, F1194, F1195⟩ := hW
       have zu1192 := u1192.size
       obtain ⟨ms5, eM5, aoM5, bM5, cpM5, e1197, H1198, k1199, k1200, k1201, k1202, k1203⟩ := F1195 (hdD 5 rfl)
       obtain ⟨hSl5, he5, hmn5, hmc5⟩ := id H1198
       refine ⟨[(209, .slice aoM5 ms5.length cpM5)], ⟨fi 7 rfl rfl (k1200 (hdD 7 rfl)).symm, trivial⟩, fun Lr => ?_⟩
       refine t_assign rfl rfl rfl ?_
       exact dzn rfl ⟨u1192, F1193, F1194, (fun _ => ⟨ms5, eM5, aoM5, bM5, cpM5, e1197, H1198, k1199, k1200, k1201, (fun _ => rfl), k1203⟩)⟩
      ·
       intro D ρ w1204 hcD hnD hdD hW
       obtain ⟨u1205, F1206, F1207, F1208⟩ := hW
       have zu1205 := u1205.size
       obtain ⟨ms5, eM5, aoM5, bM5, cpM5, e1210, H1211, k1212, k1213, k1214, k1215, k1216⟩ := F1208 (hdD 5 rfl)
       obtain ⟨hSl5, he5, hmn5, hmc5⟩ := id H1211
       refine ⟨[(210, .int .i64 eM5)], ⟨fi 8 rfl rfl (k1214 (hdD 8 rfl)).symm, trivial⟩, fun Lr => ?_⟩
       refine t_assign rfl rfl rfl ?_
       exact dzn rfl ⟨u1205, F1206, F1207, (fun _ => ⟨ms5, eM5, aoM5, bM5, cpM5, e1210, H1211, k1212, k1213, k1214, k1215, (fun _ => rfl)⟩)⟩
      intro ρ w1217 hW
      obtain ⟨u1218, F1219, F1220, F1221⟩ := hW
      have zu1218 := u1218.size
      have E1222 := E470.next u1218 (fun _ _ h => h.elim)
      obtain ⟨ms5, eM5, aoM5, bM5, cpM5, e1225, H1226, k1227, k1228, k1229, k1230, k1231⟩ := F1221 rfl
      obtain ⟨hSl5, he5, hmn5, hmc5⟩ := id H1226
      refine QK.weak [(9, .int .i64 eM5), (10, .slice aoM2 ms2.length cpM2), (12, .int .i64 (sumI (ls.take k))), (17, .slice aoM5 ms5.length cpM5)] ⟨(look_nd (j := 10) rfl rfl rfl (k1231 rfl)), rfl, rfl, (look_nd (j := 9) rfl rfl rfl (k1230 rfl)), trivial⟩ (hK1084 _ _ (c_seq fun K1232 hK1232 => (c_region ?_)))
      have he50 : eM5 = 0 := by
        rw [he5]
        refine open_held hE (by rw [heldL_len]; omega) (fun u hu => ?_)
        obtain ⟨j, hj, rfl⟩ := List.mem_map.1 hu
        have hjv : j < vs.length := by have : j < k := by simpa using hj
                                       omega
        have h1 := hst _ (nth_mem hjv)
        have h2 := hLR j hjv
        have h3 := h2.1.1
        exact ⟨nth (vs.map HVoy.v) j, by rw [nth_mapv]; exact List.mem_map.2 ⟨_, nth_mem hjv, rfl⟩, _, rfl, by rw [nth_mapv]; omega, by rw [nth_mapv]; omega⟩
      have hms5 : ms5.length = 0 := by
        rw [hmc5 he50, show k = ((vs.map HVoy.v)).length from by rw [List.length_map]; exact hkv, held_free (fun j hj => (hLR j (by rw [List.length_map] at hj; exact hj)).1)]; rfl
      have hsm : 0 < sumI (ls.take k) ↔ 0 < (ms2.length : Int) := by
        have h := held_sum (vl := (vs.map HVoy.v)) (ns := ns) (by rw [List.length_map]; omega) (fun j hj => (hLR j (by rw [List.length_map] at hj; exact hj)).1)
        rw [← hm2] at h
        rw [List.take_of_length_le (by omega), h]; omega
      refine t_move rfl rfl rfl (t_cmp rfl rfl rfl rfl rfl (t_same 212 (v := .bool true) rfl (congrArg Value.bool (decide_eq_true (by omega))) (t_move rfl rfl rfl (t_move rfl rfl rfl (t_len Try.underlying107 rfl rfl rfl rfl (t_cmp rfl rfl rfl rfl rfl (t_same 216 (v := .bool true) rfl (congrArg Value.bool (decide_eq_true (by omega))) (t_pick_t rfl rfl rfl rfl (t_move rfl rfl rfl (t_move rfl rfl rfl (t_cmp rfl rfl rfl rfl rfl (t_move rfl rfl rfl (t_len Try.underlying107 rfl rfl rfl rfl (t_cmp rfl rfl rfl rfl rfl (t_eqB Try.underlying4 rfl rfl rfl rfl (t_same 224 (v := .bool true) rfl (congrArg Value.bool (decide_eq_true (decide_eq_decide.2 hsm))) (t_pick_t rfl rfl rfl rfl (t_move rfl rfl rfl (t_call (vs := []) own16 rfl rfl rfl rfl (known_c _) (fun v1233 w1234 r1236 => ?_))))))))))))))))))))
      obtain ⟨rfl, u1235⟩ := r1236
      have zu1235 := u1235.size
      have E1237 := E1222.next u1235 (fun _ _ h => h.elim)
      refine t_pick_t rfl rfl rfl rfl (t_assign rfl rfl rfl (t_nil' (hK1232 _ _ (c_ret (f_ret1 (v := .bool true) Try.results15 rfl ?_)))))
      exact ⟨rfl, E1237⟩

end Go.Proofs.Ytmicjleiheoieaa
