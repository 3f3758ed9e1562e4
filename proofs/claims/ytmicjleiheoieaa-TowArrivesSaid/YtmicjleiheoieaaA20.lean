/-
  The law TowArrives returns true. Conditions: none.
-/
import Derived.Test.YtmicjleiheoieaaA13
import Derived.Test.YtmicjleiheoieaaA19
namespace Go.Proofs.Ytmicjleiheoieaa
open Go Go.RowKit

theorem own5 : Own Try.prog 5 := ⟨Try.f5, Try.func5, by kernel_rfl, by kernel_rfl⟩

theorem TowArrives_c (v : Voy) (ao : Option Addr) (b o cap : Nat) (p : Int) (w0 : World) (hs : Sl encRun 6 w0 ao b o v.runs) :
    CallsV Try.prog 5 [.agg #[.int .i64 v.st.lo, .int .i64 v.st.hi, .slice ao ((v.runs).length) cap, .int .i64 v.len, .int .i64 v.wid], .int .i64 p] w0 (fun x w' => x = .bool true ∧ Ext w0 w') := by
 have E0 := Upd.refl (fun _ => False) w0
 refine f_enter (N := 82) Try.func5 rfl rfl rfl ?_
 change WC _ _ _ _ _ _ [(0, .agg #[.int .i64 v.st.lo, .int .i64 v.st.hi, .slice ao ((v.runs).length) cap, .int .i64 v.len, .int .i64 v.wid]), (1, .int .i64 p)] _
 refine c_seq fun K1 hK1 => (c_region (t_box (cs := [.int .i64 v.st.lo, .int .i64 v.st.hi, .slice ao ((v.runs).length) cap, .int .i64 v.len, .int .i64 v.wid]) rfl rfl rfl rfl (fun bk2 w3 ebk2 sbk2 B4 u5 => ?_)))
 have zu5 := u5.size
 have E6 := E0.next u5 (fun _ _ h => h.elim)
 refine t_assign rfl rfl rfl (t_nil' (hK1 _ _ (c_seq fun K7 hK7 => (c_seq fun K8 hK8 => (c_region (t_field Try.underlying48 rfl Try.sizeOf46 (2) rfl rfl rfl rfl (t_load Try.isAgg46 rfl rfl rfl (B4.get rfl) (t_len Try.underlying46 rfl rfl rfl rfl (t_cmp rfl rfl rfl rfl rfl (t_nil' (hK8 _ _ (c_condp rfl (fun g12 => ?_) (fun g12 => ?_)))))))))))))
 ·
  refine c_seq fun K9 hK9 => (c_region (t_call (vs := []) own16 rfl rfl rfl rfl (known_c _) (fun v10 w11 r13 => ?_)))
  obtain ⟨rfl, u12⟩ := r13
  have zu12 := u12.size
  have E14 := E6.next u12 (fun _ _ h => h.elim)
  refine t_assign rfl rfl rfl (t_nil' (hK9 _ _ (c_ret (f_ret1 (v := .bool true) Try.results5 rfl ?_))))
  exact ⟨rfl, E14⟩
 ·
  refine c_skip (hK7 _ _ (c_seq fun K15 hK15 => (c_region (t_loadN (vs := [.int .i64 v.st.lo, .int .i64 v.st.hi, .slice ao ((v.runs).length) cap, .int .i64 v.len, .int .i64 v.wid]) Try.isAgg48 Try.sizeOf48 rfl rfl rfl (B4.at.sub 0 5) rfl (t_call (vs := [.agg #[.int .i64 v.st.lo, .int .i64 v.st.hi, .slice ao ((v.runs).length) cap, .int .i64 v.len, .int .i64 v.wid]]) own28 rfl rfl rfl rfl (copied_c v ao b o cap _ (hs.keep E6 (fun _ h => h)) (by omega)) (fun v17 w18 r20 => ?_))))))
  obtain ⟨⟨aoC16, bC16, cpC16, rfl, hC16, gebC16⟩, u19⟩ := r20
  have zu19 := u19.size
  have E21 := E6.next u19 (fun _ _ h => h.elim)
  refine t_alloc (cs := [.int .i64 0, .int .i64 0, .slice none 0 0, .int .i64 0, .int .i64 0]) Try.zeroValue48 rfl rfl rfl (fun bk22 w23 ebk22 sbk22 B24 u25 => ?_)
  have zu25 := u25.size
  have E26 := E21.next u25 (fun _ _ h => h.elim)
  refine t_store (vs := [.int .i64 v.st.lo, .int .i64 v.st.hi, .slice aoC16 ((v.runs).length) cpC16, .int .i64 v.len, .int .i64 v.wid]) Try.sizeOf48 rfl rfl rfl B24 rfl rfl (Nat.le_of_ble_eq_true rfl) (by simp [Value.oneCell']) (fun w27 sw27 B29 u28 => ?_)
  have zu28 := u28.size
  have E30 := E26.next u28 (fun i hi (h : i = bk22) => show False by first | omega | assumption)
  have B29 : Blk w27 bk22 48 [.int .i64 v.st.lo, .int .i64 v.st.hi, .slice aoC16 ((v.runs).length) cpC16, .int .i64 v.len, .int .i64 v.wid] := B29
  refine t_nil' (hK15 _ _ (c_seq fun K31 hK31 => (c_region (t_loadN (vs := [.int .i64 v.st.lo, .int .i64 v.st.hi, .slice aoC16 ((v.runs).length) cpC16, .int .i64 v.len, .int .i64 v.wid]) Try.isAgg48 Try.sizeOf48 rfl rfl rfl (B29.at.sub 0 5) rfl ?_))))
  have D32 := ((hC16.keep u25 (fun _ h => h)).keep u28 (fun hp => by have hlt := hC16.lt hp; show ¬ (bC16 = bk22); first | omega | assumption))
  refine t_call (vs := [.agg #[.int .i64 v.st.lo, .int .i64 v.st.hi, .slice aoC16 ((v.runs).length) cpC16, .int .i64 v.len, .int .i64 v.wid]]) own29 rfl rfl rfl rfl (Check_c v aoC16 bC16 0 cpC16 _ D32 (by omega)) (fun v33 w34 r36 => ?_)
  obtain ⟨rfl, u35⟩ := r36
  have zu35 := u35.size
  have E37 := E30.next u35 (fun _ _ h => h.elim)
  refine t_assign rfl rfl rfl (t_nil' (hK31 _ _ (c_seq fun K38 hK38 => (c_region ?_))))
  have B39 := (B29.keep u35 (fun h => h))
  refine t_loadN (vs := [.int .i64 v.st.lo, .int .i64 v.st.hi, .slice aoC16 ((v.runs).length) cpC16, .int .i64 v.len, .int .i64 v.wid]) Try.isAgg48 Try.sizeOf48 rfl rfl rfl (B39.at.sub 0 5) rfl (t_move rfl rfl rfl ?_)
  have D40 := (D32.keep u35 (fun _ h => h))
  refine t_call (vs := [.agg #[.int .i64 v.st.lo, .int .i64 v.st.hi, .slice aoC16 ((v.runs).length) cpC16, .int .i64 v.len, .int .i64 v.wid], .int .i64 p]) own30 rfl rfl rfl rfl (Arrive_c v aoC16 bC16 0 cpC16 p _ D40 (by omega)) (fun v41 w42 r44 => ?_)
  obtain ⟨rfl, u43⟩ := r44
  have zu43 := u43.size
  have E45 := E37.next u43 (fun _ _ h => h.elim)
  refine t_move rfl rfl rfl (t_extract (vs := [.agg #[.int .i64 ((ArrB v p).lo), .int .i64 ((ArrB v p).hi)], .int .i64 (ArrE v p)]) rfl rfl rfl rfl (t_extract (vs := [.agg #[.int .i64 ((ArrB v p).lo), .int .i64 ((ArrB v p).hi)], .int .i64 (ArrE v p)]) rfl rfl rfl rfl (t_alloc (cs := [.int .i64 0, .int .i64 0]) Try.zeroValue45 rfl rfl rfl (fun bk46 w47 ebk46 sbk46 B48 u49 => ?_))))
  have zu49 := u49.size
  have E50 := E45.next u49 (fun _ _ h => h.elim)
  refine t_store (vs := [.int .i64 ((ArrB v p).lo), .int .i64 ((ArrB v p).hi)]) Try.sizeOf45 rfl rfl rfl B48 rfl rfl (Nat.le_of_ble_eq_true rfl) (by simp [Value.oneCell']) (fun w51 sw51 B53 u52 => ?_)
  have zu52 := u52.size
  have E54 := E50.next u52 (fun i hi (h : i = bk46) => show False by first | omega | assumption)
  have B53 : Blk w51 bk46 45 [.int .i64 ((ArrB v p).lo), .int .i64 ((ArrB v p).hi)] := B53
  refine t_assign rfl rfl rfl (t_nil' (hK38 _ _ (c_seq fun K55 hK55 => (c_seq fun K56 hK56 => (c_region ?_)))))
  have B57 := (((B39.keep u43 (fun h => h)).keep u49 (fun h => h)).keep u52 (show ¬ (bk22 = bk46) by first | omega | assumption))
  refine t_loadN (vs := [.int .i64 v.st.lo, .int .i64 v.st.hi, .slice aoC16 ((v.runs).length) cpC16, .int .i64 v.len, .int .i64 v.wid]) Try.isAgg48 Try.sizeOf48 rfl rfl rfl (B57.at.sub 0 5) rfl (t_bslice (ps := [(0, .agg #[.int .i64 v.st.lo, .int .i64 v.st.hi, .slice aoC16 ((v.runs).length) cpC16, .int .i64 v.len, .int .i64 v.wid])]) (cs := [.int .i64 v.st.lo, .int .i64 v.st.hi, .slice aoC16 ((v.runs).length) cpC16, .int .i64 v.len, .int .i64 v.wid]) (e := 48) rfl rfl ⟨rfl, rfl⟩ (fun w => by kernel_rfl) (fun bk58 w59 ebk58 sbk58 B60 u61 => ?_))
  have zu61 := u61.size
  have E62 := E54.next u61 (fun _ _ h => h.elim)
  have B63 := ((((((((B4.keep u19 (fun h => h)).keep u25 (fun h => h)).keep u28 (show ¬ (bk2 = bk22) by first | omega | assumption)).keep u35 (fun h => h)).keep u43 (fun h => h)).keep u49 (fun h => h)).keep u52 (show ¬ (bk2 = bk46) by first | omega | assumption)).keep u61 (fun h => h))
  refine t_loadN (vs := [.int .i64 v.st.lo, .int .i64 v.st.hi, .slice ao ((v.runs).length) cap, .int .i64 v.len, .int .i64 v.wid]) Try.isAgg48 Try.sizeOf48 rfl rfl rfl (B63.at.sub 0 5) rfl (t_bslice (ps := [(0, .agg #[.int .i64 v.st.lo, .int .i64 v.st.hi, .slice ao ((v.runs).length) cap, .int .i64 v.len, .int .i64 v.wid])]) (cs := [.int .i64 v.st.lo, .int .i64 v.st.hi, .slice ao ((v.runs).length) cap, .int .i64 v.len, .int .i64 v.wid]) (e := 48) rfl rfl ⟨rfl, rfl⟩ (fun w => by kernel_rfl) (fun bk64 w65 ebk64 sbk64 B66 u67 => ?_))
  have zu67 := u67.size
  have E68 := E62.next u67 (fun _ _ h => h.elim)
  have B69 := (B60.keep u67 (fun h => h))
  have D70 := (((((D40.keep u43 (fun _ h => h)).keep u49 (fun _ h => h)).keep u52 (fun hp => by have hlt := hC16.lt hp; show ¬ (bC16 = bk46); first | omega | assumption)).keep u61 (fun _ h => h)).keep u67 (fun _ h => h))
  refine t_call (vs := [.slice (some ⟨bk58, 0, none⟩) 1 1, .slice (some ⟨bk64, 0, none⟩) 1 1]) own31 rfl rfl rfl rfl (unchanged1_c ⟨v, aoC16, bC16, 0, cpC16⟩ ⟨v, ao, b, o, cap⟩ bk58 bk64 _ _ _ B69 B66 D70 (hs.keep E68 (fun _ h => h)) rfl (by show (v.runs).length ≤ _; omega)) (fun v71 w72 r74 => ?_)
  obtain ⟨rfl, u73⟩ := r74
  have zu73 := u73.size
  have E75 := E68.next u73 (fun _ _ h => h.elim)
  refine t_not rfl rfl rfl (t_nil' (hK56 _ _ (c_cond_f rfl (c_skip (hK55 _ _ (c_seq fun K76 hK76 => (c_seq fun K77 hK77 => (c_region ?_))))))))
  have B78 := ((B63.keep u67 (fun h => h)).keep u73 (fun h => h))
  refine t_loadN (vs := [.int .i64 v.st.lo, .int .i64 v.st.hi, .slice ao ((v.runs).length) cap, .int .i64 v.len, .int .i64 v.wid]) Try.isAgg48 Try.sizeOf48 rfl rfl rfl (B78.at.sub 0 5) rfl (t_call (vs := [.agg #[.int .i64 v.st.lo, .int .i64 v.st.hi, .slice ao ((v.runs).length) cap, .int .i64 v.len, .int .i64 v.wid]]) own32 rfl rfl rfl rfl (rVoyage_c v ao b o cap _ (hs.keep E75 (fun _ h => h)) (by omega)) (fun v79 w80 r82 => ?_))
  obtain ⟨rfl, u81⟩ := r82
  have zu81 := u81.size
  have E83 := E75.next u81 (fun _ _ h => h.elim)
  refine t_not rfl rfl rfl (t_nil' (hK77 _ _ (c_cond rfl (fun g32 => ?_) (fun g32 => ?_))))
  ·
   have hbad : okVoy v = false := by simpa using g32
   refine c_same 6 (v := .int .i64 2) rfl (congrArg (Value.int .i64) (by simp [chk, hbad])) (c_same 8 (v := .int .i64 2) rfl (congrArg (Value.int .i64) (by simp [ArrE, hbad])) ?_)
   have B84 := ((((B53.keep u61 (fun h => h)).keep u67 (fun h => h)).keep u73 (fun h => h)).keep u81 (fun h => h))
   have B85 : Blk w80 bk46 45 [.int .i64 0, .int .i64 0] := by
    have e : ([.int .i64 ((ArrB v p).lo), .int .i64 ((ArrB v p).hi)] : List Value) = [.int .i64 0, .int .i64 0] := by simp [ArrB, hbad]
    rw [← e]; exact B84
   refine c_seq fun K86 hK86 => (c_region (t_move rfl rfl rfl (t_cmp rfl rfl rfl rfl rfl (t_samehd (v := .bool true) rfl (t_move rfl rfl rfl (t_move rfl rfl rfl (t_move rfl rfl rfl (t_cmp rfl rfl rfl rfl rfl (t_samehd (v := .bool true) rfl (t_pick_t rfl rfl rfl rfl (t_move rfl rfl rfl (t_loadN (vs := [.int .i64 0, .int .i64 0]) Try.isAgg45 Try.sizeOf45 rfl rfl rfl (B85.at.sub 0 2) rfl (t_build (ps := []) (v := .agg #[.int .i64 0, .int .i64 0]) rfl rfl ⟨rfl, rfl⟩ (fun w => by kernel_rfl) (t_eqS (xs := [.int .i64 0, .int .i64 0]) (ys := [.int .i64 0, .int .i64 0]) (by kernel_rfl) (eqIn45 9998 0 0 0 0) rfl rfl rfl rfl (t_samehd (v := .bool true) rfl (t_pick_t rfl rfl rfl rfl (t_move rfl rfl rfl (t_call (vs := []) own16 rfl rfl rfl rfl (known_c _) (fun v87 w88 r90 => ?_)))))))))))))))))))
   obtain ⟨rfl, u89⟩ := r90
   have zu89 := u89.size
   have E91 := E83.next u89 (fun _ _ h => h.elim)
   refine t_pick_t rfl rfl rfl rfl (t_assign rfl rfl rfl (t_nil' (hK86 _ _ (c_ret (f_ret1 (v := .bool true) Try.results5 rfl ?_)))))
   exact ⟨rfl, E91⟩
  ·
   have hk : okVoy v = true := by simpa using g32
   have hv := okVoy_rng hk
   refine c_same 6 (v := .int .i64 0) rfl (congrArg (Value.int .i64) (by simp [chk, hk])) (c_skip (hK76 _ _ (c_seq fun K92 hK92 => (c_seq fun K93 hK93 => (c_region ?_)))))
   have B94 := (B78.keep u81 (fun h => h))
   refine t_loadN (vs := [.int .i64 v.st.lo, .int .i64 v.st.hi, .slice ao ((v.runs).length) cap, .int .i64 v.len, .int .i64 v.wid]) Try.isAgg48 Try.sizeOf48 rfl rfl rfl (B94.at.sub 0 5) rfl (t_move rfl rfl rfl (t_call (vs := [.agg #[.int .i64 v.st.lo, .int .i64 v.st.hi, .slice ao ((v.runs).length) cap, .int .i64 v.len, .int .i64 v.wid], .int .i64 p]) own33 rfl rfl rfl rfl (On_c v ao b o cap p _ (hs.keep E83 (fun _ h => h)) hv.pos (by have := hv.few; omega)) (fun v95 w96 r98 => ?_)))
   obtain ⟨rfl, u97⟩ := r98
   have zu97 := u97.size
   have E99 := E83.next u97 (fun _ _ h => h.elim)
   refine t_not rfl rfl rfl (t_nil' (hK93 _ _ (c_cond rfl (fun g51 => ?_) (fun g51 => ?_))))
   ·
    have hno : onWay v [p] = false := by simpa using g51
    refine c_same 8 (v := .int .i64 7) rfl (congrArg (Value.int .i64) (by simp [ArrE, hk, hno])) ?_
    have B100 := (((((B53.keep u61 (fun h => h)).keep u67 (fun h => h)).keep u73 (fun h => h)).keep u81 (fun h => h)).keep u97 (fun h => h))
    have B101 : Blk w96 bk46 45 [.int .i64 0, .int .i64 0] := by
     have e : ([.int .i64 ((ArrB v p).lo), .int .i64 ((ArrB v p).hi)] : List Value) = [.int .i64 0, .int .i64 0] := by simp [ArrB, hk, hno]
     rw [← e]; exact B100
    refine c_seq fun K102 hK102 => (c_region (t_move rfl rfl rfl (t_cmp rfl rfl rfl rfl rfl (t_samehd (v := .bool true) rfl (t_move rfl rfl rfl (t_move rfl rfl rfl (t_cmp rfl rfl rfl rfl rfl (t_samehd (v := .bool true) rfl (t_pick_t rfl rfl rfl rfl (t_move rfl rfl rfl (t_loadN (vs := [.int .i64 0, .int .i64 0]) Try.isAgg45 Try.sizeOf45 rfl rfl rfl (B101.at.sub 0 2) rfl (t_build (ps := []) (v := .agg #[.int .i64 0, .int .i64 0]) rfl rfl ⟨rfl, rfl⟩ (fun w => by kernel_rfl) (t_eqS (xs := [.int .i64 0, .int .i64 0]) (ys := [.int .i64 0, .int .i64 0]) (by kernel_rfl) (eqIn45 9998 0 0 0 0) rfl rfl rfl rfl (t_samehd (v := .bool true) rfl (t_pick_t rfl rfl rfl rfl (t_move rfl rfl rfl (t_call (vs := []) own16 rfl rfl rfl rfl (known_c _) (fun v103 w104 r106 => ?_))))))))))))))))))
    obtain ⟨rfl, u105⟩ := r106
    have zu105 := u105.size
    have E107 := E99.next u105 (fun _ _ h => h.elim)
    refine t_pick_t rfl rfl rfl rfl (t_assign rfl rfl rfl (t_nil' (hK102 _ _ (c_ret (f_ret1 (v := .bool true) Try.results5 rfl ?_)))))
    exact ⟨rfl, E107⟩
   ·
    have ho : onWay v [p] = true := by simpa using g51
    have hp1 := onWay_rng ho
    have hp2 := frst_rng hk
    have hp3 := lst_rng hk
    refine c_same 8 (v := .int .i64 0) rfl (congrArg (Value.int .i64) (by simp [ArrE, hk, ho])) ?_
    have B108 := (((((B53.keep u61 (fun h => h)).keep u67 (fun h => h)).keep u73 (fun h => h)).keep u81 (fun h => h)).keep u97 (fun h => h))
    have B109 : Blk w96 bk46 45 [.int .i64 ((arr v p).lo), .int .i64 ((arr v p).hi)] := by
     have e : ([.int .i64 ((ArrB v p).lo), .int .i64 ((ArrB v p).hi)] : List Value) = [.int .i64 ((arr v p).lo), .int .i64 ((arr v p).hi)] := by simp [ArrB, hk, ho]
     rw [← e]; exact B108
    refine c_skip (hK92 _ _ (c_seq fun K110 hK110 => ?_))
    have B111 := (B94.keep u97 (fun h => h))
    refine WC.weak [(1, .int .i64 p), (2, .pointer (some ⟨bk2, 0, none⟩)), (4, .bool false), (6, .int .i64 0), (7, .pointer (some ⟨bk46, 0, none⟩)), (8, .int .i64 0)] ⟨rfl, rfl, rfl, rfl, rfl, rfl, trivial⟩ (c_drawn follows 17 [some (66, some (.int .i64 0)), some (67, some (.bool true)), some (68, some (.bool true)), some (69, some (.int .i64 0)), some (70, some (.bool true)), some (71, some (.bool true)), some (72, some (.bool true)), some (73, some (.agg #[.int .i64 ((arr v p).lo), .int .i64 ((arr v p).hi)])), some (74, some (.agg #[.int .i64 v.st.lo, .int .i64 v.st.hi, .slice ao ((v.runs).length) cap, .int .i64 v.len, .int .i64 v.wid])), some (75, some (.int .i64 p)), some (76, some (.agg #[.int .i64 ((arr v p).lo), .int .i64 ((arr v p).hi)])), some (77, some (.bool true)), some (78, some (.bool true)), some (79, some (.bool true)), some (80, some (.bool true)), some (81, some (.bool true)), some (4, some (.bool true))] [[],[0],[1],[2],[3,2],[2,4],[5,2],[6],[6],[6],[8,9,6,6],[7,10,6],[6,11],[12,10],[13,13],[13,14],[15,14,0,1,2,3,4,5,6,7,8,9,10,11,12,13,14,15]] (fun _ _ w => Upd (fun _ => False) w96 w) rfl rfl rfl (by kernel_rfl) (by kernel_rfl) (Upd.drew _).to ⟨?_, ?_, ?_, ?_, ?_, ?_, ?_, ?_, ?_, ?_, ?_, ?_, ?_, ?_, ?_, ?_, ?_, trivial⟩ ?_)
    · exact fun D ρ w _ _ _ hW => ⟨[(6, .int .i64 0)], ⟨fo rfl rfl, trivial⟩, fun Lr => t_move rfl rfl rfl (dz rfl hW)⟩
    ·
     intro D ρ w122 hcD hnD hdD hW
     have zhW := hW.size
     refine ⟨[(66, .int .i64 0)], ⟨fi 0 rfl rfl rfl, trivial⟩, fun Lr => ?_⟩
     show WL _ _ _ _ _ _ _ ((66, .int .i64 0) :: Lr) _
     refine t_cmp rfl rfl rfl rfl rfl (t_samehd (v := .bool true) rfl ?_)
     exact dz rfl hW
    · exact fun D ρ w _ _ _ hW => ⟨[(67, .bool true)], ⟨fi 1 rfl rfl rfl, trivial⟩, fun Lr => t_move rfl rfl rfl (dz rfl hW)⟩
    · exact fun D ρ w _ _ _ hW => ⟨[(8, .int .i64 0), (68, .bool true)], ⟨fo rfl rfl, fi 2 rfl rfl rfl, trivial⟩, fun Lr => t_move rfl rfl rfl (dz rfl hW)⟩
    ·
     intro D ρ w125 hcD hnD hdD hW
     have zhW := hW.size
     refine ⟨[(68, .bool true), (69, .int .i64 0)], ⟨fi 2 rfl rfl rfl, fi 3 rfl rfl rfl, trivial⟩, fun Lr => ?_⟩
     show WL _ _ _ _ _ _ _ ((68, .bool true) :: (69, .int .i64 0) :: Lr) _
     refine t_cmp rfl rfl rfl rfl rfl (t_samehd (v := .bool true) rfl ?_)
     exact dz rfl hW
    · exact fun D ρ w _ _ _ hW => ⟨[(68, .bool true), (70, .bool true)], ⟨fi 2 rfl rfl rfl, fi 4 rfl rfl rfl, trivial⟩, fun Lr => t_pick_t rfl rfl rfl rfl (dz rfl hW)⟩
    · exact fun D ρ w _ _ _ hW => ⟨[(71, .bool true)], ⟨fi 5 rfl rfl rfl, trivial⟩, fun Lr => t_move rfl rfl rfl (dz rfl hW)⟩
    ·
     intro D ρ w128 hcD hnD hdD hW
     have zhW := hW.size
     refine ⟨[(7, .pointer (some ⟨bk46, 0, none⟩)), (72, .bool true)], ⟨fo rfl rfl, fi 6 rfl rfl rfl, trivial⟩, fun Lr => ?_⟩
     show WL _ _ _ _ _ _ _ ((7, .pointer (some ⟨bk46, 0, none⟩)) :: (72, .bool true) :: Lr) _
     have B131 := (B109.keep hW (fun h => h))
     refine t_loadN (vs := [.int .i64 ((arr v p).lo), .int .i64 ((arr v p).hi)]) Try.isAgg45 Try.sizeOf45 rfl rfl rfl (B131.at.sub 0 2) rfl ?_
     exact dz rfl hW
    ·
     intro D ρ w132 hcD hnD hdD hW
     have zhW := hW.size
     refine ⟨[(2, .pointer (some ⟨bk2, 0, none⟩)), (72, .bool true)], ⟨fo rfl rfl, fi 6 rfl rfl rfl, trivial⟩, fun Lr => ?_⟩
     show WL _ _ _ _ _ _ _ ((2, .pointer (some ⟨bk2, 0, none⟩)) :: (72, .bool true) :: Lr) _
     have B135 := (B111.keep hW (fun h => h))
     refine t_loadN (vs := [.int .i64 v.st.lo, .int .i64 v.st.hi, .slice ao ((v.runs).length) cap, .int .i64 v.len, .int .i64 v.wid]) Try.isAgg48 Try.sizeOf48 rfl rfl rfl (B135.at.sub 0 5) rfl ?_
     exact dz rfl hW
    · exact fun D ρ w _ _ _ hW => ⟨[(1, .int .i64 p), (72, .bool true)], ⟨fo rfl rfl, fi 6 rfl rfl rfl, trivial⟩, fun Lr => t_move rfl rfl rfl (dz rfl hW)⟩
    ·
     intro D ρ w136 hcD hnD hdD hW
     have zhW := hW.size
     have E138 := E99.next hW (fun _ _ h => h.elim)
     refine ⟨[(72, .bool true), (74, .agg #[.int .i64 v.st.lo, .int .i64 v.st.hi, .slice ao ((v.runs).length) cap, .int .i64 v.len, .int .i64 v.wid]), (75, .int .i64 p)], ⟨fi 6 rfl rfl rfl, fi 8 rfl rfl rfl, fi 9 rfl rfl rfl, trivial⟩, fun Lr => ?_⟩
     show WL _ _ _ _ _ _ _ ((72, .bool true) :: (74, .agg #[.int .i64 v.st.lo, .int .i64 v.st.hi, .slice ao ((v.runs).length) cap, .int .i64 v.len, .int .i64 v.wid]) :: (75, .int .i64 p) :: Lr) _
     refine t_call (vs := [.agg #[.int .i64 v.st.lo, .int .i64 v.st.hi, .slice ao ((v.runs).length) cap, .int .i64 v.len, .int .i64 v.wid], .int .i64 p]) own34 rfl rfl rfl rfl (rArriveA_c v ao b o cap p _ (hs.keep E138 (fun _ h => h)) hk ho) (fun v139 w140 r142 => ?_)
     obtain ⟨rfl, u141⟩ := r142
     have zu141 := u141.size
     exact dz rfl (hW.next u141 (fun _ _ h => h.elim))
    ·
     intro D ρ w144 hcD hnD hdD hW
     have zhW := hW.size
     refine ⟨[(72, .bool true), (73, .agg #[.int .i64 ((arr v p).lo), .int .i64 ((arr v p).hi)]), (76, .agg #[.int .i64 ((arr v p).lo), .int .i64 ((arr v p).hi)])], ⟨fi 6 rfl rfl rfl, fi 7 rfl rfl rfl, fi 10 rfl rfl rfl, trivial⟩, fun Lr => ?_⟩
     show WL _ _ _ _ _ _ _ ((72, .bool true) :: (73, .agg #[.int .i64 ((arr v p).lo), .int .i64 ((arr v p).hi)]) :: (76, .agg #[.int .i64 ((arr v p).lo), .int .i64 ((arr v p).hi)]) :: Lr) _
     refine t_eqS (xs := [.int .i64 ((arr v p).lo), .int .i64 ((arr v p).hi)]) (ys := [.int .i64 ((arr v p).lo), .int .i64 ((arr v p).hi)]) (by kernel_rfl) (eqIn45 9998 ((arr v p).lo) ((arr v p).hi) ((arr v p).lo) ((arr v p).hi)) rfl rfl rfl rfl (t_samehd (v := .bool true) (by simp) ?_)
     exact dz rfl hW
    · exact fun D ρ w _ _ _ hW => ⟨[(72, .bool true), (77, .bool true)], ⟨fi 6 rfl rfl rfl, fi 11 rfl rfl rfl, trivial⟩, fun Lr => t_pick_t rfl rfl rfl rfl (dz rfl hW)⟩
    · exact fun D ρ w _ _ _ hW => ⟨[(78, .bool true)], ⟨fi 12 rfl rfl rfl, trivial⟩, fun Lr => t_move rfl rfl rfl (dz rfl hW)⟩
    ·
     intro D ρ w147 hcD hnD hdD hW
     have zhW := hW.size
     refine ⟨[(79, .bool true)], ⟨fi 13 rfl rfl rfl, trivial⟩, fun Lr => ?_⟩
     show WL _ _ _ _ _ _ _ ((79, .bool true) :: Lr) _
     refine t_call (vs := []) own16 rfl rfl rfl rfl (known_c _) (fun v150 w151 r153 => ?_)
     obtain ⟨rfl, u152⟩ := r153
     have zu152 := u152.size
     exact dz rfl (hW.next u152 (fun _ _ h => h.elim))
    · exact fun D ρ w _ _ _ hW => ⟨[(79, .bool true), (80, .bool true)], ⟨fi 13 rfl rfl rfl, fi 14 rfl rfl rfl, trivial⟩, fun Lr => t_pick_t rfl rfl rfl rfl (dz rfl hW)⟩
    · exact fun D ρ w _ _ _ hW => ⟨[(81, .bool true)], ⟨fi 15 rfl rfl rfl, trivial⟩, fun Lr => t_assign rfl rfl rfl (dz rfl hW)⟩
    intro ρ w155 hW
    have u156 : Upd (fun _ => False) w96 w155 := hW
    have zu156 := u156.size
    have E157 := E99.next u156 (fun _ _ h => h.elim)
    refine QK.weak [(4, .bool true)] ⟨rfl, trivial⟩ (hK110 _ _ (c_ret (f_ret1 (v := .bool true) Try.results5 rfl ?_)))
    exact ⟨rfl, E157⟩

end Go.Proofs.Ytmicjleiheoieaa
