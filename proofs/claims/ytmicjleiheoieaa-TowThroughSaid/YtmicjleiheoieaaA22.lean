/-
  The law TowThrough returns true. Conditions: none.
-/
import Derived.Test.YtmicjleiheoieaaA13
import Derived.Test.YtmicjleiheoieaaA21
namespace Go.Proofs.Ytmicjleiheoieaa
open Go Go.RowKit

theorem own8 : Own Try.prog 8 := ⟨Try.f8, Try.func8, by kernel_rfl, by kernel_rfl⟩

set_option maxHeartbeats 1000000 in
theorem TowThrough_c (va : Voy) (ao1 : Option Addr) (b1 o1 cap1 : Nat) (vb : Voy) (ao2 : Option Addr) (b2 o2 cap2 : Nat) (n : Nar) (w0 : World) (hs1 : Sl encRun 6 w0 ao1 b1 o1 va.runs) (hs2 : Sl encRun 6 w0 ao2 b2 o2 vb.runs) :
    CallsV Try.prog 8 [.agg #[.int .i64 va.st.lo, .int .i64 va.st.hi, .slice ao1 ((va.runs).length) cap1, .int .i64 va.len, .int .i64 va.wid], .agg #[.int .i64 vb.st.lo, .int .i64 vb.st.hi, .slice ao2 ((vb.runs).length) cap2, .int .i64 vb.len, .int .i64 vb.wid], .agg #[.int .i64 n.frm, .int .i64 n.to, .int .i64 n.wid, .bool n.single]] w0 (fun x w' => x = .bool true ∧ Ext w0 w') := by
 have E0 := Upd.refl (fun _ => False) w0
 refine f_enter (N := 159) Try.func8 rfl rfl rfl ?_
 change WC _ _ _ _ _ _ [(0, .agg #[.int .i64 va.st.lo, .int .i64 va.st.hi, .slice ao1 ((va.runs).length) cap1, .int .i64 va.len, .int .i64 va.wid]), (1, .agg #[.int .i64 vb.st.lo, .int .i64 vb.st.hi, .slice ao2 ((vb.runs).length) cap2, .int .i64 vb.len, .int .i64 vb.wid]), (2, .agg #[.int .i64 n.frm, .int .i64 n.to, .int .i64 n.wid, .bool n.single])] _
 refine c_seq fun K1 hK1 => (c_region (t_box (cs := [.int .i64 va.st.lo, .int .i64 va.st.hi, .slice ao1 ((va.runs).length) cap1, .int .i64 va.len, .int .i64 va.wid]) rfl rfl rfl rfl (fun bk2 w3 ebk2 sbk2 B4 u5 => ?_)))
 have zu5 := u5.size
 have E6 := E0.next u5 (fun _ _ h => h.elim)
 refine t_box (cs := [.int .i64 vb.st.lo, .int .i64 vb.st.hi, .slice ao2 ((vb.runs).length) cap2, .int .i64 vb.len, .int .i64 vb.wid]) rfl rfl rfl rfl (fun bk7 w8 ebk7 sbk7 B9 u10 => ?_)
 have zu10 := u10.size
 have E11 := E6.next u10 (fun _ _ h => h.elim)
 refine t_box (cs := [.int .i64 n.frm, .int .i64 n.to, .int .i64 n.wid, .bool n.single]) rfl rfl rfl rfl (fun bk12 w13 ebk12 sbk12 B14 u15 => ?_)
 have zu15 := u15.size
 have E16 := E11.next u15 (fun _ _ h => h.elim)
 refine t_assign rfl rfl rfl (t_nil' (hK1 _ _ (c_seq fun K17 hK17 => (c_seq fun K18 hK18 => (c_region (t_field Try.underlying48 rfl Try.sizeOf46 (2) rfl rfl rfl rfl ?_))))))
 have B19 := ((B4.keep u10 (fun h => h)).keep u15 (fun h => h))
 refine t_load Try.isAgg46 rfl rfl rfl (B19.get rfl) (t_len Try.underlying46 rfl rfl rfl rfl (t_cmp rfl rfl rfl rfl rfl (t_move rfl rfl rfl (t_splitp 26 rfl (fun g26 => ?_) (fun g26 => ?_)))))
 ·
  refine t_skip rfl rfl rfl (t_skip rfl rfl rfl (t_skip rfl rfl rfl (t_skip rfl rfl rfl (t_pick_t rfl rfl rfl rfl (t_nil' (hK18 _ _ (c_cond_t rfl (c_seq fun K20 hK20 => (c_region (t_call (vs := []) own16 rfl rfl rfl rfl (known_c _) (fun v21 w22 r24 => ?_)))))))))))
  obtain ⟨rfl, u23⟩ := r24
  have zu23 := u23.size
  have E25 := E16.next u23 (fun _ _ h => h.elim)
  refine t_assign rfl rfl rfl (t_nil' (hK20 _ _ (c_ret (f_ret1 (v := .bool true) Try.results8 rfl ?_))))
  exact ⟨rfl, E25⟩
 ·
  refine t_field Try.underlying48 rfl Try.sizeOf46 (2) rfl rfl rfl rfl ?_
  have B26 := (B9.keep u15 (fun h => h))
  refine t_load Try.isAgg46 rfl rfl rfl (B26.get rfl) (t_len Try.underlying46 rfl rfl rfl rfl (t_cmp rfl rfl rfl rfl rfl (t_pick_f rfl rfl rfl rfl (t_nil' (hK18 _ _ (c_condp rfl (fun g31 => ?_) (fun g31 => ?_)))))))
  ·
   refine c_seq fun K27 hK27 => (c_region (t_call (vs := []) own16 rfl rfl rfl rfl (known_c _) (fun v28 w29 r31 => ?_)))
   obtain ⟨rfl, u30⟩ := r31
   have zu30 := u30.size
   have E32 := E16.next u30 (fun _ _ h => h.elim)
   refine t_assign rfl rfl rfl (t_nil' (hK27 _ _ (c_ret (f_ret1 (v := .bool true) Try.results8 rfl ?_))))
   exact ⟨rfl, E32⟩
  ·
   refine c_skip (hK17 _ _ (c_seq fun K33 hK33 => (WC.weak [(3, .pointer (some ⟨bk2, 0, none⟩)), (4, .pointer (some ⟨bk7, 0, none⟩)), (5, .pointer (some ⟨bk12, 0, none⟩)), (6, .bool false)] ⟨rfl, rfl, rfl, rfl, trivial⟩ (c_drawn follows 15 [some (34, some (.agg #[.int .i64 va.st.lo, .int .i64 va.st.hi, .slice ao1 ((va.runs).length) cap1, .int .i64 va.len, .int .i64 va.wid])), some (35, none), some (36, some (.agg #[.int .i64 n.frm, .int .i64 n.to, .int .i64 n.wid, .bool n.single])), some (37, some (.tuple #[.agg #[.int .i64 ((ThrS va n).inn.lo), .int .i64 ((ThrS va n).inn.hi)], .agg #[.int .i64 ((ThrS va n).out.lo), .int .i64 ((ThrS va n).out.hi)], .bool ((ThrS va n).there), .int .i64 (ThrE va n)])), some (33, some (.tuple #[.agg #[.int .i64 ((ThrS va n).inn.lo), .int .i64 ((ThrS va n).inn.hi)], .agg #[.int .i64 ((ThrS va n).out.lo), .int .i64 ((ThrS va n).out.hi)], .bool ((ThrS va n).there), .int .i64 (ThrE va n)])), some (38, some (.agg #[.int .i64 ((ThrS va n).inn.lo), .int .i64 ((ThrS va n).inn.hi)])), some (39, some (.agg #[.int .i64 ((ThrS va n).out.lo), .int .i64 ((ThrS va n).out.hi)])), some (40, some (.bool ((ThrS va n).there))), some (41, some (.int .i64 (ThrE va n))), some (7, none), some (8, none), none, none, some (9, some (.bool ((ThrS va n).there))), some (10, some (.int .i64 (ThrE va n)))] [[],[0],[],[1,2,1],[3],[4],[4],[4],[4],[],[],[9,5,3,0,1,2,3,4,5,9,10],[10,6,11,0,1,2,3,4,5,6,9,10,11],[7,12,0,1,2,3,4,5,6,7,9,10,11,12],[8,13,0,1,2,3,4,5,6,7,8,9,10,11,12,13]] (fun D ρ w => Upd (fun _ => False) w13 w ∧ (D 1 = true → ∃ aoC34 bC34 cpC34, ρ 1 = .agg #[.int .i64 va.st.lo, .int .i64 va.st.hi, .slice aoC34 ((va.runs).length) cpC34, .int .i64 va.len, .int .i64 va.wid] ∧ (D 3 = false → (Sl encRun 6 w aoC34 bC34 0 va.runs ∧ w13.heap.size ≤ bC34))) ∧ (D 9 = true → ∃ bk46, ρ 9 = .pointer (some ⟨bk46, 0, none⟩) ∧ w13.heap.size ≤ bk46 ∧ Blk w bk46 45 [(bif D 11 then .int .i64 ((ThrS va n).inn.lo) else .int .i64 0), (bif D 11 then .int .i64 ((ThrS va n).inn.hi) else .int .i64 0)]) ∧ (D 10 = true → ∃ bk51, ρ 10 = .pointer (some ⟨bk51, 0, none⟩) ∧ w13.heap.size ≤ bk51 ∧ Blk w bk51 45 [(bif D 12 then .int .i64 ((ThrS va n).out.lo) else .int .i64 0), (bif D 12 then .int .i64 ((ThrS va n).out.hi) else .int .i64 0)]) ∧ (∀ b c, D 9 = true → D 10 = true → ρ 9 = .pointer (some ⟨b, 0, none⟩) → ρ 10 = .pointer (some ⟨c, 0, none⟩) → b ≠ c)) rfl rfl rfl (by kernel_rfl) (by kernel_rfl) ⟨(Upd.drew _).to, (fun h => by cases h), (fun h => by cases h), (fun h => by cases h), (fun _ _ h => by cases h)⟩ ⟨?_, ?_, ?_, ?_, ?_, ?_, ?_, ?_, ?_, ?_, ?_, ?_, ?_, ?_, ?_, trivial⟩ ?_))))
   ·
    intro D ρ w56 hcD hnD hdD hW
    obtain ⟨u57, F58, F59, F60, P61⟩ := hW
    have zu57 := u57.size
    refine ⟨[(3, .pointer (some ⟨bk2, 0, none⟩))], ⟨fo rfl rfl, trivial⟩, fun Lr => ?_⟩
    show WL _ _ _ _ _ _ _ ((3, .pointer (some ⟨bk2, 0, none⟩)) :: Lr) _
    have B63 := (B19.keep u57 (fun h => h))
    refine t_loadN (vs := [.int .i64 va.st.lo, .int .i64 va.st.hi, .slice ao1 ((va.runs).length) cap1, .int .i64 va.len, .int .i64 va.wid]) Try.isAgg48 Try.sizeOf48 rfl rfl rfl (B63.at.sub 0 5) rfl ?_
    exact dz rfl ⟨u57, F58, F59, F60, P61⟩
   ·
    intro D ρ w64 hcD hnD hdD hW
    obtain ⟨u65, F66, F67, F68, P69⟩ := hW
    have zu65 := u65.size
    have E70 := E16.next u65 (fun _ _ h => h.elim)
    refine ⟨[(34, .agg #[.int .i64 va.st.lo, .int .i64 va.st.hi, .slice ao1 ((va.runs).length) cap1, .int .i64 va.len, .int .i64 va.wid])], ⟨fi 0 rfl rfl rfl, trivial⟩, fun Lr => ?_⟩
    show WL _ _ _ _ _ _ _ ((34, .agg #[.int .i64 va.st.lo, .int .i64 va.st.hi, .slice ao1 ((va.runs).length) cap1, .int .i64 va.len, .int .i64 va.wid]) :: Lr) _
    refine t_call (vs := [.agg #[.int .i64 va.st.lo, .int .i64 va.st.hi, .slice ao1 ((va.runs).length) cap1, .int .i64 va.len, .int .i64 va.wid]]) own28 rfl rfl rfl rfl (copied_c va ao1 b1 o1 cap1 _ (hs1.keep E70 (fun _ h => h)) (by omega)) (fun v72 w73 r75 => ?_)
    obtain ⟨⟨aoC71, bC71, cpC71, rfl, hC71, gebC71⟩, u74⟩ := r75
    have zu74 := u74.size
    exact dzn rfl ⟨(u65.next u74 (fun _ _ h => h.elim)), (fun _ => ⟨aoC71, bC71, cpC71, rfl, fun _ => ⟨hC71, by omega⟩⟩), (fun h => by obtain ⟨b, e, hge, hB⟩ := F67 h; exact ⟨b, e, hge, (hB.keep u74 (fun h => h))⟩), (fun h => by obtain ⟨b, e, hge, hB⟩ := F68 h; exact ⟨b, e, hge, (hB.keep u74 (fun h => h))⟩), P69⟩
   ·
    intro D ρ w77 hcD hnD hdD hW
    obtain ⟨u78, F79, F80, F81, P82⟩ := hW
    have zu78 := u78.size
    refine ⟨[(5, .pointer (some ⟨bk12, 0, none⟩))], ⟨fo rfl rfl, trivial⟩, fun Lr => ?_⟩
    show WL _ _ _ _ _ _ _ ((5, .pointer (some ⟨bk12, 0, none⟩)) :: Lr) _
    have B84 := (B14.keep u78 (fun h => h))
    refine t_loadN (vs := [.int .i64 n.frm, .int .i64 n.to, .int .i64 n.wid, .bool n.single]) Try.isAgg72 Try.sizeOf72 rfl rfl rfl (B84.at.sub 0 4) rfl ?_
    exact dz rfl ⟨u78, F79, F80, F81, P82⟩
   ·
    intro D ρ w85 hcD hnD hdD hW
    obtain ⟨u86, F87, F88, F89, P90⟩ := hW
    have zu86 := u86.size
    obtain ⟨aoC34, bC34, cpC34, e92, H93⟩ := F87 (hdD 1 rfl)
    have H94 := H93 hnD
    have hsH94 := H94.1
    have hgH94 := H94.2
    refine ⟨[(35, .agg #[.int .i64 va.st.lo, .int .i64 va.st.hi, .slice aoC34 ((va.runs).length) cpC34, .int .i64 va.len, .int .i64 va.wid]), (36, .agg #[.int .i64 n.frm, .int .i64 n.to, .int .i64 n.wid, .bool n.single])], ⟨fi 1 rfl rfl e92.symm, fi 2 rfl rfl rfl, trivial⟩, fun Lr => ?_⟩
    show WL _ _ _ _ _ _ _ ((35, .agg #[.int .i64 va.st.lo, .int .i64 va.st.hi, .slice aoC34 ((va.runs).length) cpC34, .int .i64 va.len, .int .i64 va.wid]) :: (36, .agg #[.int .i64 n.frm, .int .i64 n.to, .int .i64 n.wid, .bool n.single]) :: Lr) _
    refine t_call (vs := [.agg #[.int .i64 va.st.lo, .int .i64 va.st.hi, .slice aoC34 ((va.runs).length) cpC34, .int .i64 va.len, .int .i64 va.wid], .agg #[.int .i64 n.frm, .int .i64 n.to, .int .i64 n.wid, .bool n.single]]) own40 rfl rfl rfl rfl (Through_c va aoC34 bC34 0 cpC34 n _ hsH94 (by omega)) (fun v95 w96 r98 => ?_)
    obtain ⟨rfl, u97⟩ := r98
    have zu97 := u97.size
    exact dz rfl ⟨(u86.next u97 (fun _ _ h => h.elim)), (fun h => by obtain ⟨aoC34, bC34, cpC34, e, _⟩ := F87 h; exact ⟨aoC34, bC34, cpC34, e, fun h => by cases h⟩), (fun h => by obtain ⟨b, e, hge, hB⟩ := F88 h; exact ⟨b, e, hge, (hB.keep u97 (fun h => h))⟩), (fun h => by obtain ⟨b, e, hge, hB⟩ := F89 h; exact ⟨b, e, hge, (hB.keep u97 (fun h => h))⟩), P90⟩
   · exact fun D ρ w _ _ _ hW => ⟨[(37, .tuple #[.agg #[.int .i64 ((ThrS va n).inn.lo), .int .i64 ((ThrS va n).inn.hi)], .agg #[.int .i64 ((ThrS va n).out.lo), .int .i64 ((ThrS va n).out.hi)], .bool ((ThrS va n).there), .int .i64 (ThrE va n)])], ⟨fi 3 rfl rfl rfl, trivial⟩, fun Lr => t_move rfl rfl rfl (dz rfl hW)⟩
   · exact fun D ρ w _ _ _ hW => ⟨[(33, .tuple #[.agg #[.int .i64 ((ThrS va n).inn.lo), .int .i64 ((ThrS va n).inn.hi)], .agg #[.int .i64 ((ThrS va n).out.lo), .int .i64 ((ThrS va n).out.hi)], .bool ((ThrS va n).there), .int .i64 (ThrE va n)])], ⟨fi 4 rfl rfl rfl, trivial⟩, fun Lr => t_extract (vs := [.agg #[.int .i64 ((ThrS va n).inn.lo), .int .i64 ((ThrS va n).inn.hi)], .agg #[.int .i64 ((ThrS va n).out.lo), .int .i64 ((ThrS va n).out.hi)], .bool ((ThrS va n).there), .int .i64 (ThrE va n)]) rfl rfl rfl rfl (dz rfl hW)⟩
   · exact fun D ρ w _ _ _ hW => ⟨[(33, .tuple #[.agg #[.int .i64 ((ThrS va n).inn.lo), .int .i64 ((ThrS va n).inn.hi)], .agg #[.int .i64 ((ThrS va n).out.lo), .int .i64 ((ThrS va n).out.hi)], .bool ((ThrS va n).there), .int .i64 (ThrE va n)])], ⟨fi 4 rfl rfl rfl, trivial⟩, fun Lr => t_extract (vs := [.agg #[.int .i64 ((ThrS va n).inn.lo), .int .i64 ((ThrS va n).inn.hi)], .agg #[.int .i64 ((ThrS va n).out.lo), .int .i64 ((ThrS va n).out.hi)], .bool ((ThrS va n).there), .int .i64 (ThrE va n)]) rfl rfl rfl rfl (dz rfl hW)⟩
   · exact fun D ρ w _ _ _ hW => ⟨[(33, .tuple #[.agg #[.int .i64 ((ThrS va n).inn.lo), .int .i64 ((ThrS va n).inn.hi)], .agg #[.int .i64 ((ThrS va n).out.lo), .int .i64 ((ThrS va n).out.hi)], .bool ((ThrS va n).there), .int .i64 (ThrE va n)])], ⟨fi 4 rfl rfl rfl, trivial⟩, fun Lr => t_extract (vs := [.agg #[.int .i64 ((ThrS va n).inn.lo), .int .i64 ((ThrS va n).inn.hi)], .agg #[.int .i64 ((ThrS va n).out.lo), .int .i64 ((ThrS va n).out.hi)], .bool ((ThrS va n).there), .int .i64 (ThrE va n)]) rfl rfl rfl rfl (dz rfl hW)⟩
   · exact fun D ρ w _ _ _ hW => ⟨[(33, .tuple #[.agg #[.int .i64 ((ThrS va n).inn.lo), .int .i64 ((ThrS va n).inn.hi)], .agg #[.int .i64 ((ThrS va n).out.lo), .int .i64 ((ThrS va n).out.hi)], .bool ((ThrS va n).there), .int .i64 (ThrE va n)])], ⟨fi 4 rfl rfl rfl, trivial⟩, fun Lr => t_extract (vs := [.agg #[.int .i64 ((ThrS va n).inn.lo), .int .i64 ((ThrS va n).inn.hi)], .agg #[.int .i64 ((ThrS va n).out.lo), .int .i64 ((ThrS va n).out.hi)], .bool ((ThrS va n).there), .int .i64 (ThrE va n)]) rfl rfl rfl rfl (dz rfl hW)⟩
   ·
    intro D ρ w100 hcD hnD hdD hW
    obtain ⟨u101, F102, F103, F104, P105⟩ := hW
    have zu101 := u101.size
    refine ⟨[], trivial, fun Lr => ?_⟩
    show WL _ _ _ _ _ _ _ (Lr) _
    refine t_alloc (cs := [.int .i64 0, .int .i64 0]) Try.zeroValue45 rfl rfl rfl (fun bk107 w108 ebk107 sbk107 B109 u110 => ?_)
    have zu110 := u110.size
    have d11 := hcD.late 11 hnD rfl
    exact dzn rfl ⟨(u101.next u110 (fun _ _ h => h.elim)), (fun h => by obtain ⟨aoC34, bC34, cpC34, e, hB⟩ := F102 h; exact ⟨aoC34, bC34, cpC34, e, fun h2 => ⟨((hB h2).1.keep u110 (fun _ h => h)), (hB h2).2⟩⟩), (fun _ => ⟨bk107, rfl, (by omega), (by show Blk w108 bk107 45 [(bif D 11 then .int .i64 ((ThrS va n).inn.lo) else .int .i64 0), (bif D 11 then .int .i64 ((ThrS va n).inn.hi) else .int .i64 0)]; simp only [d11, cond_false]; exact B109)⟩), (fun h => by obtain ⟨b, e, hge, hB⟩ := F104 h; exact ⟨b, e, hge, (hB.keep u110 (fun h => h))⟩), (fun b c h1 h2 e1 e2 => by obtain ⟨b1, e3, _, hB⟩ := F104 h2; have hl := hB.lt; have e4 : Value.pointer (some ⟨b1, 0, none⟩) = .pointer (some ⟨c, 0, none⟩) := e3.symm.trans e2; have e5 : Value.pointer (some ⟨bk107, 0, none⟩) = .pointer (some ⟨b, 0, none⟩) := e1; simp at e4 e5; omega)⟩
   ·
    intro D ρ w112 hcD hnD hdD hW
    obtain ⟨u113, F114, F115, F116, P117⟩ := hW
    have zu113 := u113.size
    refine ⟨[], trivial, fun Lr => ?_⟩
    show WL _ _ _ _ _ _ _ (Lr) _
    refine t_alloc (cs := [.int .i64 0, .int .i64 0]) Try.zeroValue45 rfl rfl rfl (fun bk119 w120 ebk119 sbk119 B121 u122 => ?_)
    have zu122 := u122.size
    have d12 := hcD.late 12 hnD rfl
    exact dzn rfl ⟨(u113.next u122 (fun _ _ h => h.elim)), (fun h => by obtain ⟨aoC34, bC34, cpC34, e, hB⟩ := F114 h; exact ⟨aoC34, bC34, cpC34, e, fun h2 => ⟨((hB h2).1.keep u122 (fun _ h => h)), (hB h2).2⟩⟩), (fun h => by obtain ⟨b, e, hge, hB⟩ := F115 h; exact ⟨b, e, hge, (hB.keep u122 (fun h => h))⟩), (fun _ => ⟨bk119, rfl, (by omega), (by show Blk w120 bk119 45 [(bif D 12 then .int .i64 ((ThrS va n).out.lo) else .int .i64 0), (bif D 12 then .int .i64 ((ThrS va n).out.hi) else .int .i64 0)]; simp only [d12, cond_false]; exact B121)⟩), (fun b c h1 h2 e1 e2 => by obtain ⟨b1, e3, _, hB⟩ := F115 h1; have hl := hB.lt; have e4 : Value.pointer (some ⟨b1, 0, none⟩) = .pointer (some ⟨b, 0, none⟩) := e3.symm.trans e1; have e5 : Value.pointer (some ⟨bk119, 0, none⟩) = .pointer (some ⟨c, 0, none⟩) := e2; simp at e4 e5; omega)⟩
   ·
    intro D ρ w124 hcD hnD hdD hW
    obtain ⟨u125, F126, F127, F128, P129⟩ := hW
    have zu125 := u125.size
    obtain ⟨bk46, e131, gebk46, B132⟩ := F127 (hdD 9 rfl)
    have B133 := B132
    simp only [hnD, cond_false] at B133
    refine ⟨[(7, .pointer (some ⟨bk46, 0, none⟩)), (38, .agg #[.int .i64 ((ThrS va n).inn.lo), .int .i64 ((ThrS va n).inn.hi)])], ⟨fi 9 rfl rfl e131.symm, fi 5 rfl rfl rfl, trivial⟩, fun Lr => ?_⟩
    show WL _ _ _ _ _ _ _ ((7, .pointer (some ⟨bk46, 0, none⟩)) :: (38, .agg #[.int .i64 ((ThrS va n).inn.lo), .int .i64 ((ThrS va n).inn.hi)]) :: Lr) _
    refine t_store (vs := [.int .i64 ((ThrS va n).inn.lo), .int .i64 ((ThrS va n).inn.hi)]) Try.sizeOf45 rfl rfl rfl B133 rfl rfl (Nat.le_of_ble_eq_true rfl) (by simp [Value.oneCell']) (fun w134 sw134 B136 u135 => ?_)
    have zu135 := u135.size
    have B136 : Blk w134 bk46 45 [.int .i64 ((ThrS va n).inn.lo), .int .i64 ((ThrS va n).inn.hi)] := B136
    exact dz0 rfl ⟨(u125.next u135 (fun i hi (h : i = bk46) => show False by first | omega | assumption)), (fun h => by obtain ⟨aoC34, bC34, cpC34, e, _⟩ := F126 h; exact ⟨aoC34, bC34, cpC34, e, fun h2 => absurd ((hdD 3 rfl).symm.trans h2) (by decide)⟩), (fun _ => ⟨bk46, e131, gebk46, (by show Blk w134 bk46 45 [.int .i64 ((ThrS va n).inn.lo), .int .i64 ((ThrS va n).inn.hi)]; exact B136)⟩), (fun h => by obtain ⟨b, e, hge, hB⟩ := F128 h; have hne := P129 _ _ (hdD 9 rfl) h e131 e; exact ⟨b, e, hge, (hB.keep u135 (show ¬ (b = bk46) by first | omega | assumption))⟩), P129⟩
   ·
    intro D ρ w138 hcD hnD hdD hW
    obtain ⟨u139, F140, F141, F142, P143⟩ := hW
    have zu139 := u139.size
    obtain ⟨bk51, e145, gebk51, B146⟩ := F142 (hdD 10 rfl)
    have B147 := B146
    simp only [hnD, cond_false] at B147
    refine ⟨[(8, .pointer (some ⟨bk51, 0, none⟩)), (39, .agg #[.int .i64 ((ThrS va n).out.lo), .int .i64 ((ThrS va n).out.hi)])], ⟨fi 10 rfl rfl e145.symm, fi 6 rfl rfl rfl, trivial⟩, fun Lr => ?_⟩
    show WL _ _ _ _ _ _ _ ((8, .pointer (some ⟨bk51, 0, none⟩)) :: (39, .agg #[.int .i64 ((ThrS va n).out.lo), .int .i64 ((ThrS va n).out.hi)]) :: Lr) _
    refine t_store (vs := [.int .i64 ((ThrS va n).out.lo), .int .i64 ((ThrS va n).out.hi)]) Try.sizeOf45 rfl rfl rfl B147 rfl rfl (Nat.le_of_ble_eq_true rfl) (by simp [Value.oneCell']) (fun w148 sw148 B150 u149 => ?_)
    have zu149 := u149.size
    have B150 : Blk w148 bk51 45 [.int .i64 ((ThrS va n).out.lo), .int .i64 ((ThrS va n).out.hi)] := B150
    exact dz0 rfl ⟨(u139.next u149 (fun i hi (h : i = bk51) => show False by first | omega | assumption)), (fun h => by obtain ⟨aoC34, bC34, cpC34, e, _⟩ := F140 h; exact ⟨aoC34, bC34, cpC34, e, fun h2 => absurd ((hdD 3 rfl).symm.trans h2) (by decide)⟩), (fun h => by obtain ⟨b, e, hge, hB⟩ := F141 h; have hne := P143 _ _ h (hdD 10 rfl) e e145; exact ⟨b, e, hge, (hB.keep u149 (show ¬ (b = bk51) by first | omega | assumption))⟩), (fun _ => ⟨bk51, e145, gebk51, (by show Blk w148 bk51 45 [.int .i64 ((ThrS va n).out.lo), .int .i64 ((ThrS va n).out.hi)]; exact B150)⟩), P143⟩
   · exact fun D ρ w _ _ _ hW => ⟨[(40, .bool ((ThrS va n).there))], ⟨fi 7 rfl rfl rfl, trivial⟩, fun Lr => t_assign rfl rfl rfl (dz rfl hW)⟩
   · exact fun D ρ w _ _ _ hW => ⟨[(41, .int .i64 (ThrE va n))], ⟨fi 8 rfl rfl rfl, trivial⟩, fun Lr => t_assign rfl rfl rfl (dz rfl hW)⟩
   intro ρ w152 hW
   obtain ⟨u153, F154, F155, F156, P157⟩ := hW
   have zu153 := u153.size
   have E158 := E16.next u153 (fun _ _ h => h.elim)
   obtain ⟨bk46, e160, gebk46, B161⟩ := F155 rfl
   have B161 : Blk w152 bk46 45 [.int .i64 ((ThrS va n).inn.lo), .int .i64 ((ThrS va n).inn.hi)] := B161
   have lt_bk46 := B161.lt
   obtain ⟨bk51, e162, gebk51, B163⟩ := F156 rfl
   have B163 : Blk w152 bk51 45 [.int .i64 ((ThrS va n).out.lo), .int .i64 ((ThrS va n).out.hi)] := B163
   have lt_bk51 := B163.lt
   have nbk46_bk51 := P157 _ _ rfl rfl e160 e162
   refine QK.weak [(3, .pointer (some ⟨bk2, 0, none⟩)), (4, .pointer (some ⟨bk7, 0, none⟩)), (5, .pointer (some ⟨bk12, 0, none⟩)), (6, .bool false), (7, .pointer (some ⟨bk46, 0, none⟩)), (8, .pointer (some ⟨bk51, 0, none⟩)), (9, .bool ((ThrS va n).there)), (10, .int .i64 (ThrE va n))] ⟨rfl, rfl, rfl, rfl, (look_nd (j := 9) rfl rfl rfl e160), (look_nd (j := 10) rfl rfl rfl e162), rfl, rfl, trivial⟩ (hK33 _ _ (c_seq fun K164 hK164 => ?_))
   have B165 := (B19.keep u153 (fun h => h))
   have B166 := (B26.keep u153 (fun h => h))
   have B167 := (B14.keep u153 (fun h => h))
   refine WC.weak [(3, .pointer (some ⟨bk2, 0, none⟩)), (4, .pointer (some ⟨bk7, 0, none⟩)), (5, .pointer (some ⟨bk12, 0, none⟩)), (6, .bool false), (7, .pointer (some ⟨bk46, 0, none⟩)), (8, .pointer (some ⟨bk51, 0, none⟩)), (9, .bool ((ThrS va n).there)), (10, .int .i64 (ThrE va n))] ⟨rfl, rfl, rfl, rfl, rfl, rfl, rfl, rfl, trivial⟩ (c_drawn follows 13 [some (43, some (.agg #[.int .i64 va.st.lo, .int .i64 va.st.hi, .slice ao1 ((va.runs).length) cap1, .int .i64 va.len, .int .i64 va.wid])), some (44, none), some (45, some (.agg #[.int .i64 vb.st.lo, .int .i64 vb.st.hi, .slice ao2 ((vb.runs).length) cap2, .int .i64 vb.len, .int .i64 vb.wid])), some (46, none), some (47, some (.agg #[.int .i64 n.frm, .int .i64 n.to, .int .i64 n.wid, .bool n.single])), some (48, some (.tuple #[.bool (MeetOk va vb n && mayB (thrS va n) (thrS vb n)), .bool (MeetOk va vb n && mustB (thrS va n) (thrS vb n)), .int .i64 (MeetE va vb n)])), some (42, some (.tuple #[.bool (MeetOk va vb n && mayB (thrS va n) (thrS vb n)), .bool (MeetOk va vb n && mustB (thrS va n) (thrS vb n)), .int .i64 (MeetE va vb n)])), some (49, some (.bool (MeetOk va vb n && mayB (thrS va n) (thrS vb n)))), some (50, some (.bool (MeetOk va vb n && mustB (thrS va n) (thrS vb n)))), some (51, some (.int .i64 (MeetE va vb n))), some (11, some (.bool (MeetOk va vb n && mayB (thrS va n) (thrS vb n)))), some (12, some (.bool (MeetOk va vb n && mustB (thrS va n) (thrS vb n)))), some (13, some (.int .i64 (MeetE va vb n)))] [[],[0],[],[2,1],[],[1,3,4,3],[5],[6],[6],[6],[7,5,0,1,2,3,4,5,6,7],[8,10,0,1,2,3,4,5,6,7,8,10],[9,11,0,1,2,3,4,5,6,7,8,9,10,11]] (fun D ρ w => Upd (fun _ => False) w152 w ∧ (D 1 = true → ∃ aoC168 bC168 cpC168, ρ 1 = .agg #[.int .i64 va.st.lo, .int .i64 va.st.hi, .slice aoC168 ((va.runs).length) cpC168, .int .i64 va.len, .int .i64 va.wid] ∧ (D 5 = false → (Sl encRun 6 w aoC168 bC168 0 va.runs ∧ w152.heap.size ≤ bC168))) ∧ (D 3 = true → ∃ aoC175 bC175 cpC175, ρ 3 = .agg #[.int .i64 vb.st.lo, .int .i64 vb.st.hi, .slice aoC175 ((vb.runs).length) cpC175, .int .i64 vb.len, .int .i64 vb.wid] ∧ (D 5 = false → (Sl encRun 6 w aoC175 bC175 0 vb.runs ∧ w152.heap.size ≤ bC175)))) rfl rfl rfl (by kernel_rfl) (by kernel_rfl) ⟨(Upd.drew _).to, (fun h => by cases h), (fun h => by cases h)⟩ ⟨?_, ?_, ?_, ?_, ?_, ?_, ?_, ?_, ?_, ?_, ?_, ?_, ?_, trivial⟩ ?_)
   ·
    intro D ρ w188 hcD hnD hdD hW
    obtain ⟨u189, F190, F191⟩ := hW
    have zu189 := u189.size
    refine ⟨[(3, .pointer (some ⟨bk2, 0, none⟩))], ⟨fo rfl rfl, trivial⟩, fun Lr => ?_⟩
    show WL _ _ _ _ _ _ _ ((3, .pointer (some ⟨bk2, 0, none⟩)) :: Lr) _
    have B193 := (B165.keep u189 (fun h => h))
    refine t_loadN (vs := [.int .i64 va.st.lo, .int .i64 va.st.hi, .slice ao1 ((va.runs).length) cap1, .int .i64 va.len, .int .i64 va.wid]) Try.isAgg48 Try.sizeOf48 rfl rfl rfl (B193.at.sub 0 5) rfl ?_
    exact dz rfl ⟨u189, F190, F191⟩
   ·
    intro D ρ w194 hcD hnD hdD hW
    obtain ⟨u195, F196, F197⟩ := hW
    have zu195 := u195.size
    have E198 := E158.next u195 (fun _ _ h => h.elim)
    refine ⟨[(43, .agg #[.int .i64 va.st.lo, .int .i64 va.st.hi, .slice ao1 ((va.runs).length) cap1, .int .i64 va.len, .int .i64 va.wid])], ⟨fi 0 rfl rfl rfl, trivial⟩, fun Lr => ?_⟩
    show WL _ _ _ _ _ _ _ ((43, .agg #[.int .i64 va.st.lo, .int .i64 va.st.hi, .slice ao1 ((va.runs).length) cap1, .int .i64 va.len, .int .i64 va.wid]) :: Lr) _
    refine t_call (vs := [.agg #[.int .i64 va.st.lo, .int .i64 va.st.hi, .slice ao1 ((va.runs).length) cap1, .int .i64 va.len, .int .i64 va.wid]]) own28 rfl rfl rfl rfl (copied_c va ao1 b1 o1 cap1 _ (hs1.keep E198 (fun _ h => h)) (by omega)) (fun v200 w201 r203 => ?_)
    obtain ⟨⟨aoC199, bC199, cpC199, rfl, hC199, gebC199⟩, u202⟩ := r203
    have zu202 := u202.size
    exact dzn rfl ⟨(u195.next u202 (fun _ _ h => h.elim)), (fun _ => ⟨aoC199, bC199, cpC199, rfl, fun _ => ⟨hC199, by omega⟩⟩), (fun h => by obtain ⟨aoC175, bC175, cpC175, e, hB⟩ := F197 h; exact ⟨aoC175, bC175, cpC175, e, fun h2 => ⟨((hB h2).1.keep u202 (fun _ h => h)), (hB h2).2⟩⟩)⟩
   ·
    intro D ρ w205 hcD hnD hdD hW
    obtain ⟨u206, F207, F208⟩ := hW
    have zu206 := u206.size
    refine ⟨[(4, .pointer (some ⟨bk7, 0, none⟩))], ⟨fo rfl rfl, trivial⟩, fun Lr => ?_⟩
    show WL _ _ _ _ _ _ _ ((4, .pointer (some ⟨bk7, 0, none⟩)) :: Lr) _
    have B210 := (B166.keep u206 (fun h => h))
    refine t_loadN (vs := [.int .i64 vb.st.lo, .int .i64 vb.st.hi, .slice ao2 ((vb.runs).length) cap2, .int .i64 vb.len, .int .i64 vb.wid]) Try.isAgg48 Try.sizeOf48 rfl rfl rfl (B210.at.sub 0 5) rfl ?_
    exact dz rfl ⟨u206, F207, F208⟩
   ·
    intro D ρ w211 hcD hnD hdD hW
    obtain ⟨u212, F213, F214⟩ := hW
    have zu212 := u212.size
    have E215 := E158.next u212 (fun _ _ h => h.elim)
    refine ⟨[(45, .agg #[.int .i64 vb.st.lo, .int .i64 vb.st.hi, .slice ao2 ((vb.runs).length) cap2, .int .i64 vb.len, .int .i64 vb.wid])], ⟨fi 2 rfl rfl rfl, trivial⟩, fun Lr => ?_⟩
    show WL _ _ _ _ _ _ _ ((45, .agg #[.int .i64 vb.st.lo, .int .i64 vb.st.hi, .slice ao2 ((vb.runs).length) cap2, .int .i64 vb.len, .int .i64 vb.wid]) :: Lr) _
    refine t_call (vs := [.agg #[.int .i64 vb.st.lo, .int .i64 vb.st.hi, .slice ao2 ((vb.runs).length) cap2, .int .i64 vb.len, .int .i64 vb.wid]]) own28 rfl rfl rfl rfl (copied_c vb ao2 b2 o2 cap2 _ (hs2.keep E215 (fun _ h => h)) (by omega)) (fun v217 w218 r220 => ?_)
    obtain ⟨⟨aoC216, bC216, cpC216, rfl, hC216, gebC216⟩, u219⟩ := r220
    have zu219 := u219.size
    exact dzn rfl ⟨(u212.next u219 (fun _ _ h => h.elim)), (fun h => by obtain ⟨aoC168, bC168, cpC168, e, hB⟩ := F213 h; exact ⟨aoC168, bC168, cpC168, e, fun h2 => ⟨((hB h2).1.keep u219 (fun _ h => h)), (hB h2).2⟩⟩), (fun _ => ⟨aoC216, bC216, cpC216, rfl, fun _ => ⟨hC216, by omega⟩⟩)⟩
   ·
    intro D ρ w222 hcD hnD hdD hW
    obtain ⟨u223, F224, F225⟩ := hW
    have zu223 := u223.size
    refine ⟨[(5, .pointer (some ⟨bk12, 0, none⟩))], ⟨fo rfl rfl, trivial⟩, fun Lr => ?_⟩
    show WL _ _ _ _ _ _ _ ((5, .pointer (some ⟨bk12, 0, none⟩)) :: Lr) _
    have B227 := (B167.keep u223 (fun h => h))
    refine t_loadN (vs := [.int .i64 n.frm, .int .i64 n.to, .int .i64 n.wid, .bool n.single]) Try.isAgg72 Try.sizeOf72 rfl rfl rfl (B227.at.sub 0 4) rfl ?_
    exact dz rfl ⟨u223, F224, F225⟩
   ·
    intro D ρ w228 hcD hnD hdD hW
    obtain ⟨u229, F230, F231⟩ := hW
    have zu229 := u229.size
    obtain ⟨aoC168, bC168, cpC168, e233, H234⟩ := F230 (hdD 1 rfl)
    have H235 := H234 hnD
    have hsH235 := H235.1
    have hgH235 := H235.2
    obtain ⟨aoC175, bC175, cpC175, e236, H237⟩ := F231 (hdD 3 rfl)
    have H238 := H237 hnD
    have hsH238 := H238.1
    have hgH238 := H238.2
    refine ⟨[(44, .agg #[.int .i64 va.st.lo, .int .i64 va.st.hi, .slice aoC168 ((va.runs).length) cpC168, .int .i64 va.len, .int .i64 va.wid]), (46, .agg #[.int .i64 vb.st.lo, .int .i64 vb.st.hi, .slice aoC175 ((vb.runs).length) cpC175, .int .i64 vb.len, .int .i64 vb.wid]), (47, .agg #[.int .i64 n.frm, .int .i64 n.to, .int .i64 n.wid, .bool n.single])], ⟨fi 1 rfl rfl e233.symm, fi 3 rfl rfl e236.symm, fi 4 rfl rfl rfl, trivial⟩, fun Lr => ?_⟩
    show WL _ _ _ _ _ _ _ ((44, .agg #[.int .i64 va.st.lo, .int .i64 va.st.hi, .slice aoC168 ((va.runs).length) cpC168, .int .i64 va.len, .int .i64 va.wid]) :: (46, .agg #[.int .i64 vb.st.lo, .int .i64 vb.st.hi, .slice aoC175 ((vb.runs).length) cpC175, .int .i64 vb.len, .int .i64 vb.wid]) :: (47, .agg #[.int .i64 n.frm, .int .i64 n.to, .int .i64 n.wid, .bool n.single]) :: Lr) _
    refine t_call (vs := [.agg #[.int .i64 va.st.lo, .int .i64 va.st.hi, .slice aoC168 ((va.runs).length) cpC168, .int .i64 va.len, .int .i64 va.wid], .agg #[.int .i64 vb.st.lo, .int .i64 vb.st.hi, .slice aoC175 ((vb.runs).length) cpC175, .int .i64 vb.len, .int .i64 vb.wid], .agg #[.int .i64 n.frm, .int .i64 n.to, .int .i64 n.wid, .bool n.single]]) own41 rfl rfl rfl rfl (Meet_c va aoC168 bC168 0 cpC168 vb aoC175 bC175 0 cpC175 n _ hsH235 hsH238 (by omega) (by omega)) (fun v239 w240 r242 => ?_)
    obtain ⟨rfl, u241⟩ := r242
    have zu241 := u241.size
    exact dz rfl ⟨(u229.next u241 (fun _ _ h => h.elim)), (fun h => by obtain ⟨aoC168, bC168, cpC168, e, _⟩ := F230 h; exact ⟨aoC168, bC168, cpC168, e, fun h => by cases h⟩), (fun h => by obtain ⟨aoC175, bC175, cpC175, e, _⟩ := F231 h; exact ⟨aoC175, bC175, cpC175, e, fun h => by cases h⟩)⟩
   · exact fun D ρ w _ _ _ hW => ⟨[(48, .tuple #[.bool (MeetOk va vb n && mayB (thrS va n) (thrS vb n)), .bool (MeetOk va vb n && mustB (thrS va n) (thrS vb n)), .int .i64 (MeetE va vb n)])], ⟨fi 5 rfl rfl rfl, trivial⟩, fun Lr => t_move rfl rfl rfl (dz rfl hW)⟩
   · exact fun D ρ w _ _ _ hW => ⟨[(42, .tuple #[.bool (MeetOk va vb n && mayB (thrS va n) (thrS vb n)), .bool (MeetOk va vb n && mustB (thrS va n) (thrS vb n)), .int .i64 (MeetE va vb n)])], ⟨fi 6 rfl rfl rfl, trivial⟩, fun Lr => t_extract (vs := [.bool (MeetOk va vb n && mayB (thrS va n) (thrS vb n)), .bool (MeetOk va vb n && mustB (thrS va n) (thrS vb n)), .int .i64 (MeetE va vb n)]) rfl rfl rfl rfl (dz rfl hW)⟩
   · exact fun D ρ w _ _ _ hW => ⟨[(42, .tuple #[.bool (MeetOk va vb n && mayB (thrS va n) (thrS vb n)), .bool (MeetOk va vb n && mustB (thrS va n) (thrS vb n)), .int .i64 (MeetE va vb n)])], ⟨fi 6 rfl rfl rfl, trivial⟩, fun Lr => t_extract (vs := [.bool (MeetOk va vb n && mayB (thrS va n) (thrS vb n)), .bool (MeetOk va vb n && mustB (thrS va n) (thrS vb n)), .int .i64 (MeetE va vb n)]) rfl rfl rfl rfl (dz rfl hW)⟩
   · exact fun D ρ w _ _ _ hW => ⟨[(42, .tuple #[.bool (MeetOk va vb n && mayB (thrS va n) (thrS vb n)), .bool (MeetOk va vb n && mustB (thrS va n) (thrS vb n)), .int .i64 (MeetE va vb n)])], ⟨fi 6 rfl rfl rfl, trivial⟩, fun Lr => t_extract (vs := [.bool (MeetOk va vb n && mayB (thrS va n) (thrS vb n)), .bool (MeetOk va vb n && mustB (thrS va n) (thrS vb n)), .int .i64 (MeetE va vb n)]) rfl rfl rfl rfl (dz rfl hW)⟩
   · exact fun D ρ w _ _ _ hW => ⟨[(49, .bool (MeetOk va vb n && mayB (thrS va n) (thrS vb n)))], ⟨fi 7 rfl rfl rfl, trivial⟩, fun Lr => t_assign rfl rfl rfl (dz rfl hW)⟩
   · exact fun D ρ w _ _ _ hW => ⟨[(50, .bool (MeetOk va vb n && mustB (thrS va n) (thrS vb n)))], ⟨fi 8 rfl rfl rfl, trivial⟩, fun Lr => t_assign rfl rfl rfl (dz rfl hW)⟩
   · exact fun D ρ w _ _ _ hW => ⟨[(51, .int .i64 (MeetE va vb n))], ⟨fi 9 rfl rfl rfl, trivial⟩, fun Lr => t_assign rfl rfl rfl (dz rfl hW)⟩
   intro ρ w244 hW
   obtain ⟨u245, F246, F247⟩ := hW
   have zu245 := u245.size
   have E248 := E158.next u245 (fun _ _ h => h.elim)
   refine QK.weak [(3, .pointer (some ⟨bk2, 0, none⟩)), (4, .pointer (some ⟨bk7, 0, none⟩)), (5, .pointer (some ⟨bk12, 0, none⟩)), (6, .bool false), (7, .pointer (some ⟨bk46, 0, none⟩)), (8, .pointer (some ⟨bk51, 0, none⟩)), (9, .bool ((ThrS va n).there)), (10, .int .i64 (ThrE va n)), (11, .bool (MeetOk va vb n && mayB (thrS va n) (thrS vb n))), (12, .bool (MeetOk va vb n && mustB (thrS va n) (thrS vb n))), (13, .int .i64 (MeetE va vb n))] ⟨rfl, rfl, rfl, rfl, rfl, rfl, rfl, rfl, rfl, rfl, rfl, trivial⟩ (hK164 _ _ (c_seq fun K251 hK251 => (c_region (t_build (ps := []) (v := .agg #[.int .i64 0, .int .i64 0]) rfl rfl ⟨rfl, rfl⟩ (fun w => by kernel_rfl) (t_alloc (cs := [.int .i64 0, .int .i64 0]) Try.zeroValue45 rfl rfl rfl (fun bk252 w253 ebk252 sbk252 B254 u255 => ?_))))))
   have zu255 := u255.size
   have E256 := E248.next u255 (fun _ _ h => h.elim)
   refine t_store (vs := [.int .i64 0, .int .i64 0]) Try.sizeOf45 rfl rfl rfl B254 rfl rfl (Nat.le_of_ble_eq_true rfl) (by simp [Value.oneCell']) (fun w257 sw257 B259 u258 => ?_)
   have zu258 := u258.size
   have E260 := E256.next u258 (fun i hi (h : i = bk252) => show False by first | omega | assumption)
   have B259 : Blk w257 bk252 45 [.int .i64 0, .int .i64 0] := B259
   refine t_nil' (hK251 _ _ (c_seq fun K261 hK261 => (c_seq fun K262 hK262 => (c_region ?_))))
   have B263 := (((B165.keep u245 (fun h => h)).keep u255 (fun h => h)).keep u258 (show ¬ (bk2 = bk252) by first | omega | assumption))
   refine t_loadN (vs := [.int .i64 va.st.lo, .int .i64 va.st.hi, .slice ao1 ((va.runs).length) cap1, .int .i64 va.len, .int .i64 va.wid]) Try.isAgg48 Try.sizeOf48 rfl rfl rfl (B263.at.sub 0 5) rfl (t_call (vs := [.agg #[.int .i64 va.st.lo, .int .i64 va.st.hi, .slice ao1 ((va.runs).length) cap1, .int .i64 va.len, .int .i64 va.wid]]) own32 rfl rfl rfl rfl (rVoyage_c va ao1 b1 o1 cap1 _ (hs1.keep E260 (fun _ h => h)) (by omega)) (fun v264 w265 r267 => ?_))
   obtain ⟨rfl, u266⟩ := r267
   have zu266 := u266.size
   have E268 := E260.next u266 (fun _ _ h => h.elim)
   refine t_not rfl rfl rfl (t_move rfl rfl rfl (t_split 56 rfl (fun g56 => ?_) (fun g56 => ?_)))
   ·
    have hb : (okVoy va && okNar n) = false := by simp at g56; simp [g56]
    have hb2 : (okVoy va && okVoy vb && okNar n) = false := by revert hb; cases okVoy va <;> cases okVoy vb <;> cases okNar n <;> simp
    refine t_same 10 (v := .int .i64 2) rfl (congrArg (Value.int .i64) (by simp [ThrE, hb])) (t_same 13 (v := .int .i64 2) rfl (congrArg (Value.int .i64) (by simp [MeetE, hb2])) (t_same 9 (v := .bool false) rfl (congrArg Value.bool (by simp [ThrS, hb])) (t_same 11 (v := .bool false) rfl (congrArg Value.bool (by simp [MeetOk, hb2])) (t_same 12 (v := .bool false) rfl (congrArg Value.bool (by simp [MeetOk, hb2])) ?_))))
    have B269 := ((((B161.keep u245 (fun h => h)).keep u255 (fun h => h)).keep u258 (show ¬ (bk46 = bk252) by first | omega | assumption)).keep u266 (fun h => h))
    have B270 : Blk w265 bk46 45 [.int .i64 0, .int .i64 0] := by
     have e : ([.int .i64 ((ThrS va n).inn.lo), .int .i64 ((ThrS va n).inn.hi)] : List Value) = [.int .i64 0, .int .i64 0] := by simp [ThrS, hb]
     rw [← e]; exact B269
    have B271 := ((((B163.keep u245 (fun h => h)).keep u255 (fun h => h)).keep u258 (show ¬ (bk51 = bk252) by first | omega | assumption)).keep u266 (fun h => h))
    have B272 : Blk w265 bk51 45 [.int .i64 0, .int .i64 0] := by
     have e : ([.int .i64 ((ThrS va n).out.lo), .int .i64 ((ThrS va n).out.hi)] : List Value) = [.int .i64 0, .int .i64 0] := by simp [ThrS, hb]
     rw [← e]; exact B271
    refine t_skip rfl rfl rfl (t_skip rfl rfl rfl (t_skip rfl rfl rfl (t_pick_t rfl rfl rfl rfl (t_nil' (hK262 _ _ (c_cond_t rfl (c_seq fun K273 hK273 => (c_region (t_move rfl rfl rfl (t_cmp rfl rfl rfl rfl rfl (t_samehd (v := .bool true) rfl (t_move rfl rfl rfl (t_move rfl rfl rfl (t_move rfl rfl rfl (t_cmp rfl rfl rfl rfl rfl (t_samehd (v := .bool true) rfl (t_pick_t rfl rfl rfl rfl (t_move rfl rfl rfl (t_loadN (vs := [.int .i64 0, .int .i64 0]) Try.isAgg45 Try.sizeOf45 rfl rfl rfl (B270.at.sub 0 2) rfl ?_)))))))))))))))))))
    have B274 := (B259.keep u266 (fun h => h))
    refine t_loadN (vs := [.int .i64 0, .int .i64 0]) Try.isAgg45 Try.sizeOf45 rfl rfl rfl (B274.at.sub 0 2) rfl (t_eqS (xs := [.int .i64 0, .int .i64 0]) (ys := [.int .i64 0, .int .i64 0]) (by kernel_rfl) (eqIn45 9998 0 0 0 0) rfl rfl rfl rfl (t_samehd (v := .bool true) rfl (t_pick_t rfl rfl rfl rfl (t_move rfl rfl rfl (t_loadN (vs := [.int .i64 0, .int .i64 0]) Try.isAgg45 Try.sizeOf45 rfl rfl rfl (B272.at.sub 0 2) rfl (t_loadN (vs := [.int .i64 0, .int .i64 0]) Try.isAgg45 Try.sizeOf45 rfl rfl rfl (B274.at.sub 0 2) rfl (t_eqS (xs := [.int .i64 0, .int .i64 0]) (ys := [.int .i64 0, .int .i64 0]) (by kernel_rfl) (eqIn45 9998 0 0 0 0) rfl rfl rfl rfl (t_samehd (v := .bool true) rfl (t_pick_t rfl rfl rfl rfl (t_move rfl rfl rfl (t_move rfl rfl rfl (t_not rfl rfl rfl (t_pick_t rfl rfl rfl rfl (t_move rfl rfl rfl (t_move rfl rfl rfl (t_not rfl rfl rfl (t_pick_t rfl rfl rfl rfl (t_move rfl rfl rfl (t_move rfl rfl rfl (t_not rfl rfl rfl (t_pick_t rfl rfl rfl rfl (t_move rfl rfl rfl (t_call (vs := []) own16 rfl rfl rfl rfl (known_c _) (fun v275 w276 r278 => ?_))))))))))))))))))))))))
    obtain ⟨rfl, u277⟩ := r278
    have zu277 := u277.size
    have E279 := E268.next u277 (fun _ _ h => h.elim)
    refine t_pick_t rfl rfl rfl rfl (t_assign rfl rfl rfl (t_nil' (hK273 _ _ (c_ret (f_ret1 (v := .bool true) Try.results8 rfl ?_)))))
    exact ⟨rfl, E279⟩
   ·
    have hk1 : okVoy va = true := by simpa using g56
    have B280 := ((((B167.keep u245 (fun h => h)).keep u255 (fun h => h)).keep u258 (show ¬ (bk12 = bk252) by first | omega | assumption)).keep u266 (fun h => h))
    refine t_loadN (vs := [.int .i64 n.frm, .int .i64 n.to, .int .i64 n.wid, .bool n.single]) Try.isAgg72 Try.sizeOf72 rfl rfl rfl (B280.at.sub 0 4) rfl (t_call (vs := [.agg #[.int .i64 n.frm, .int .i64 n.to, .int .i64 n.wid, .bool n.single]]) own42 rfl rfl rfl rfl (rNarrow_c n _) (fun v281 w282 r284 => ?_))
    obtain ⟨rfl, u283⟩ := r284
    have zu283 := u283.size
    have E285 := E268.next u283 (fun _ _ h => h.elim)
    refine t_not rfl rfl rfl (t_pick_f rfl rfl rfl rfl (t_nil' (hK262 _ _ (c_cond rfl (fun g60 => ?_) (fun g60 => ?_)))))
    ·
     have hb : (okVoy va && okNar n) = false := by simp at g60; simp [g60]
     have hb2 : (okVoy va && okVoy vb && okNar n) = false := by revert hb; cases okVoy va <;> cases okVoy vb <;> cases okNar n <;> simp
     refine c_same 10 (v := .int .i64 2) rfl (congrArg (Value.int .i64) (by simp [ThrE, hb])) (c_same 13 (v := .int .i64 2) rfl (congrArg (Value.int .i64) (by simp [MeetE, hb2])) (c_same 9 (v := .bool false) rfl (congrArg Value.bool (by simp [ThrS, hb])) (c_same 11 (v := .bool false) rfl (congrArg Value.bool (by simp [MeetOk, hb2])) (c_same 12 (v := .bool false) rfl (congrArg Value.bool (by simp [MeetOk, hb2])) ?_))))
     have B286 := (((((B161.keep u245 (fun h => h)).keep u255 (fun h => h)).keep u258 (show ¬ (bk46 = bk252) by first | omega | assumption)).keep u266 (fun h => h)).keep u283 (fun h => h))
     have B287 : Blk w282 bk46 45 [.int .i64 0, .int .i64 0] := by
      have e : ([.int .i64 ((ThrS va n).inn.lo), .int .i64 ((ThrS va n).inn.hi)] : List Value) = [.int .i64 0, .int .i64 0] := by simp [ThrS, hb]
      rw [← e]; exact B286
     have B288 := (((((B163.keep u245 (fun h => h)).keep u255 (fun h => h)).keep u258 (show ¬ (bk51 = bk252) by first | omega | assumption)).keep u266 (fun h => h)).keep u283 (fun h => h))
     have B289 : Blk w282 bk51 45 [.int .i64 0, .int .i64 0] := by
      have e : ([.int .i64 ((ThrS va n).out.lo), .int .i64 ((ThrS va n).out.hi)] : List Value) = [.int .i64 0, .int .i64 0] := by simp [ThrS, hb]
      rw [← e]; exact B288
     refine c_seq fun K290 hK290 => (c_region (t_move rfl rfl rfl (t_cmp rfl rfl rfl rfl rfl (t_samehd (v := .bool true) rfl (t_move rfl rfl rfl (t_move rfl rfl rfl (t_move rfl rfl rfl (t_cmp rfl rfl rfl rfl rfl (t_samehd (v := .bool true) rfl (t_pick_t rfl rfl rfl rfl (t_move rfl rfl rfl (t_loadN (vs := [.int .i64 0, .int .i64 0]) Try.isAgg45 Try.sizeOf45 rfl rfl rfl (B287.at.sub 0 2) rfl ?_))))))))))))
     have B291 := ((B259.keep u266 (fun h => h)).keep u283 (fun h => h))
     refine t_loadN (vs := [.int .i64 0, .int .i64 0]) Try.isAgg45 Try.sizeOf45 rfl rfl rfl (B291.at.sub 0 2) rfl (t_eqS (xs := [.int .i64 0, .int .i64 0]) (ys := [.int .i64 0, .int .i64 0]) (by kernel_rfl) (eqIn45 9998 0 0 0 0) rfl rfl rfl rfl (t_samehd (v := .bool true) rfl (t_pick_t rfl rfl rfl rfl (t_move rfl rfl rfl (t_loadN (vs := [.int .i64 0, .int .i64 0]) Try.isAgg45 Try.sizeOf45 rfl rfl rfl (B289.at.sub 0 2) rfl (t_loadN (vs := [.int .i64 0, .int .i64 0]) Try.isAgg45 Try.sizeOf45 rfl rfl rfl (B291.at.sub 0 2) rfl (t_eqS (xs := [.int .i64 0, .int .i64 0]) (ys := [.int .i64 0, .int .i64 0]) (by kernel_rfl) (eqIn45 9998 0 0 0 0) rfl rfl rfl rfl (t_samehd (v := .bool true) rfl (t_pick_t rfl rfl rfl rfl (t_move rfl rfl rfl (t_move rfl rfl rfl (t_not rfl rfl rfl (t_pick_t rfl rfl rfl rfl (t_move rfl rfl rfl (t_move rfl rfl rfl (t_not rfl rfl rfl (t_pick_t rfl rfl rfl rfl (t_move rfl rfl rfl (t_move rfl rfl rfl (t_not rfl rfl rfl (t_pick_t rfl rfl rfl rfl (t_move rfl rfl rfl (t_call (vs := []) own16 rfl rfl rfl rfl (known_c _) (fun v292 w293 r295 => ?_))))))))))))))))))))))))
     obtain ⟨rfl, u294⟩ := r295
     have zu294 := u294.size
     have E296 := E285.next u294 (fun _ _ h => h.elim)
     refine t_pick_t rfl rfl rfl rfl (t_assign rfl rfl rfl (t_nil' (hK290 _ _ (c_ret (f_ret1 (v := .bool true) Try.results8 rfl ?_)))))
     exact ⟨rfl, E296⟩
    ·
     have hm : okNar n = true := by simpa using g60
     refine c_same 10 (v := .int .i64 (thrE va n)) rfl (congrArg (Value.int .i64) (by simp [ThrE, hk1, hm])) (c_same 9 (v := .bool ((thrS va n).there)) rfl (congrArg Value.bool (by simp [ThrS, hk1, hm])) ?_)
     have B297 := (((((B161.keep u245 (fun h => h)).keep u255 (fun h => h)).keep u258 (show ¬ (bk46 = bk252) by first | omega | assumption)).keep u266 (fun h => h)).keep u283 (fun h => h))
     have B298 : Blk w282 bk46 45 [.int .i64 ((thrS va n).inn.lo), .int .i64 ((thrS va n).inn.hi)] := by
      have e : ([.int .i64 ((ThrS va n).inn.lo), .int .i64 ((ThrS va n).inn.hi)] : List Value) = [.int .i64 ((thrS va n).inn.lo), .int .i64 ((thrS va n).inn.hi)] := by simp [ThrS, hk1, hm]
      rw [← e]; exact B297
     have B299 := (((((B163.keep u245 (fun h => h)).keep u255 (fun h => h)).keep u258 (show ¬ (bk51 = bk252) by first | omega | assumption)).keep u266 (fun h => h)).keep u283 (fun h => h))
     have B300 : Blk w282 bk51 45 [.int .i64 ((thrS va n).out.lo), .int .i64 ((thrS va n).out.hi)] := by
      have e : ([.int .i64 ((ThrS va n).out.lo), .int .i64 ((ThrS va n).out.hi)] : List Value) = [.int .i64 ((thrS va n).out.lo), .int .i64 ((thrS va n).out.hi)] := by simp [ThrS, hk1, hm]
      rw [← e]; exact B299
     refine c_skip (hK261 _ _ (c_seq fun K301 hK301 => (c_region ?_)))
     have B302 := ((B263.keep u266 (fun h => h)).keep u283 (fun h => h))
     refine t_loadN (vs := [.int .i64 va.st.lo, .int .i64 va.st.hi, .slice ao1 ((va.runs).length) cap1, .int .i64 va.len, .int .i64 va.wid]) Try.isAgg48 Try.sizeOf48 rfl rfl rfl (B302.at.sub 0 5) rfl ?_
     have B303 := (B280.keep u283 (fun h => h))
     refine t_loadN (vs := [.int .i64 n.frm, .int .i64 n.to, .int .i64 n.wid, .bool n.single]) Try.isAgg72 Try.sizeOf72 rfl rfl rfl (B303.at.sub 0 4) rfl (t_call (vs := [.agg #[.int .i64 va.st.lo, .int .i64 va.st.hi, .slice ao1 ((va.runs).length) cap1, .int .i64 va.len, .int .i64 va.wid], .agg #[.int .i64 n.frm, .int .i64 n.to, .int .i64 n.wid, .bool n.single]]) own43 rfl rfl rfl rfl (rThrough_c va ao1 b1 o1 cap1 n _ (hs1.keep E285 (fun _ h => h)) hk1 hm) (fun v304 w305 r307 => ?_))
     obtain ⟨rfl, u306⟩ := r307
     have zu306 := u306.size
     have E308 := E285.next u306 (fun _ _ h => h.elim)
     refine t_move rfl rfl rfl (t_extract (vs := [.agg #[.int .i64 ((thrS va n).inn.lo), .int .i64 ((thrS va n).inn.hi)], .agg #[.int .i64 ((thrS va n).out.lo), .int .i64 ((thrS va n).out.hi)], .bool ((thrS va n).there), .int .i64 (thrE va n)]) rfl rfl rfl rfl (t_extract (vs := [.agg #[.int .i64 ((thrS va n).inn.lo), .int .i64 ((thrS va n).inn.hi)], .agg #[.int .i64 ((thrS va n).out.lo), .int .i64 ((thrS va n).out.hi)], .bool ((thrS va n).there), .int .i64 (thrE va n)]) rfl rfl rfl rfl (t_extract (vs := [.agg #[.int .i64 ((thrS va n).inn.lo), .int .i64 ((thrS va n).inn.hi)], .agg #[.int .i64 ((thrS va n).out.lo), .int .i64 ((thrS va n).out.hi)], .bool ((thrS va n).there), .int .i64 (thrE va n)]) rfl rfl rfl rfl (t_extract (vs := [.agg #[.int .i64 ((thrS va n).inn.lo), .int .i64 ((thrS va n).inn.hi)], .agg #[.int .i64 ((thrS va n).out.lo), .int .i64 ((thrS va n).out.hi)], .bool ((thrS va n).there), .int .i64 (thrE va n)]) rfl rfl rfl rfl (t_alloc (cs := [.int .i64 0, .int .i64 0]) Try.zeroValue45 rfl rfl rfl (fun bk309 w310 ebk309 sbk309 B311 u312 => ?_))))))
     have zu312 := u312.size
     have E313 := E308.next u312 (fun _ _ h => h.elim)
     refine t_alloc (cs := [.int .i64 0, .int .i64 0]) Try.zeroValue45 rfl rfl rfl (fun bk314 w315 ebk314 sbk314 B316 u317 => ?_)
     have zu317 := u317.size
     have E318 := E313.next u317 (fun _ _ h => h.elim)
     have B319 := (B311.keep u317 (fun h => h))
     refine t_store (vs := [.int .i64 ((thrS va n).inn.lo), .int .i64 ((thrS va n).inn.hi)]) Try.sizeOf45 rfl rfl rfl B319 rfl rfl (Nat.le_of_ble_eq_true rfl) (by simp [Value.oneCell']) (fun w320 sw320 B322 u321 => ?_)
     have zu321 := u321.size
     have E323 := E318.next u321 (fun i hi (h : i = bk309) => show False by first | omega | assumption)
     have B322 : Blk w320 bk309 45 [.int .i64 ((thrS va n).inn.lo), .int .i64 ((thrS va n).inn.hi)] := B322
     have B324 := (B316.keep u321 (show ¬ (bk314 = bk309) by first | omega | assumption))
     refine t_store (vs := [.int .i64 ((thrS va n).out.lo), .int .i64 ((thrS va n).out.hi)]) Try.sizeOf45 rfl rfl rfl B324 rfl rfl (Nat.le_of_ble_eq_true rfl) (by simp [Value.oneCell']) (fun w325 sw325 B327 u326 => ?_)
     have zu326 := u326.size
     have E328 := E323.next u326 (fun i hi (h : i = bk314) => show False by first | omega | assumption)
     have B327 : Blk w325 bk314 45 [.int .i64 ((thrS va n).out.lo), .int .i64 ((thrS va n).out.hi)] := B327
     refine t_assign rfl rfl rfl (t_assign rfl rfl rfl (t_nil' (hK301 _ _ (c_seq fun K329 hK329 => (c_seq fun K330 hK330 => (c_region (t_move rfl rfl rfl (t_move rfl rfl rfl (t_cmp rfl rfl rfl rfl rfl (t_samehd (v := .bool false) (by simp) (t_move rfl rfl rfl ?_)))))))))))
     have B331 := (((((B298.keep u306 (fun h => h)).keep u312 (fun h => h)).keep u317 (fun h => h)).keep u321 (show ¬ (bk46 = bk309) by first | omega | assumption)).keep u326 (show ¬ (bk46 = bk314) by first | omega | assumption))
     refine t_loadN (vs := [.int .i64 ((thrS va n).inn.lo), .int .i64 ((thrS va n).inn.hi)]) Try.isAgg45 Try.sizeOf45 rfl rfl rfl (B331.at.sub 0 2) rfl ?_
     have B332 := (B322.keep u326 (show ¬ (bk309 = bk314) by first | omega | assumption))
     refine t_loadN (vs := [.int .i64 ((thrS va n).inn.lo), .int .i64 ((thrS va n).inn.hi)]) Try.isAgg45 Try.sizeOf45 rfl rfl rfl (B332.at.sub 0 2) rfl (t_neS (xs := [.int .i64 ((thrS va n).inn.lo), .int .i64 ((thrS va n).inn.hi)]) (ys := [.int .i64 ((thrS va n).inn.lo), .int .i64 ((thrS va n).inn.hi)]) (by kernel_rfl) (eqIn45 9998 ((thrS va n).inn.lo) ((thrS va n).inn.hi) ((thrS va n).inn.lo) ((thrS va n).inn.hi)) rfl rfl rfl rfl (t_samehd (v := .bool false) (by simp) (t_pick_f rfl rfl rfl rfl (t_move rfl rfl rfl ?_))))
     have B333 := (((((B300.keep u306 (fun h => h)).keep u312 (fun h => h)).keep u317 (fun h => h)).keep u321 (show ¬ (bk51 = bk309) by first | omega | assumption)).keep u326 (show ¬ (bk51 = bk314) by first | omega | assumption))
     refine t_loadN (vs := [.int .i64 ((thrS va n).out.lo), .int .i64 ((thrS va n).out.hi)]) Try.isAgg45 Try.sizeOf45 rfl rfl rfl (B333.at.sub 0 2) rfl (t_loadN (vs := [.int .i64 ((thrS va n).out.lo), .int .i64 ((thrS va n).out.hi)]) Try.isAgg45 Try.sizeOf45 rfl rfl rfl (B327.at.sub 0 2) rfl (t_neS (xs := [.int .i64 ((thrS va n).out.lo), .int .i64 ((thrS va n).out.hi)]) (ys := [.int .i64 ((thrS va n).out.lo), .int .i64 ((thrS va n).out.hi)]) (by kernel_rfl) (eqIn45 9998 ((thrS va n).out.lo) ((thrS va n).out.hi) ((thrS va n).out.lo) ((thrS va n).out.hi)) rfl rfl rfl rfl (t_samehd (v := .bool false) (by simp) (t_pick_f rfl rfl rfl rfl (t_move rfl rfl rfl (t_move rfl rfl rfl (t_move rfl rfl rfl (t_neB Try.underlying4 rfl rfl rfl rfl (t_samehd (v := .bool false) (by simp) (t_pick_f rfl rfl rfl rfl (t_nil' (hK330 _ _ (c_cond_f rfl (c_skip (hK329 _ _ (c_seq fun K334 hK334 => (c_seq fun K335 hK335 => (c_region ?_))))))))))))))))))
     have B336 := ((((((((((B166.keep u245 (fun h => h)).keep u255 (fun h => h)).keep u258 (show ¬ (bk7 = bk252) by first | omega | assumption)).keep u266 (fun h => h)).keep u283 (fun h => h)).keep u306 (fun h => h)).keep u312 (fun h => h)).keep u317 (fun h => h)).keep u321 (show ¬ (bk7 = bk309) by first | omega | assumption)).keep u326 (show ¬ (bk7 = bk314) by first | omega | assumption))
     refine t_loadN (vs := [.int .i64 vb.st.lo, .int .i64 vb.st.hi, .slice ao2 ((vb.runs).length) cap2, .int .i64 vb.len, .int .i64 vb.wid]) Try.isAgg48 Try.sizeOf48 rfl rfl rfl (B336.at.sub 0 5) rfl (t_call (vs := [.agg #[.int .i64 vb.st.lo, .int .i64 vb.st.hi, .slice ao2 ((vb.runs).length) cap2, .int .i64 vb.len, .int .i64 vb.wid]]) own32 rfl rfl rfl rfl (rVoyage_c vb ao2 b2 o2 cap2 _ (hs2.keep E328 (fun _ h => h)) (by omega)) (fun v337 w338 r340 => ?_))
     obtain ⟨rfl, u339⟩ := r340
     have zu339 := u339.size
     have E341 := E328.next u339 (fun _ _ h => h.elim)
     refine t_not rfl rfl rfl (t_nil' (hK335 _ _ (c_cond rfl (fun g121 => ?_) (fun g121 => ?_))))
     ·
      have hb : okVoy vb = false := by simpa using g121
      refine c_same 13 (v := .int .i64 2) rfl (congrArg (Value.int .i64) (by simp [MeetE, hb])) (c_same 11 (v := .bool false) rfl (congrArg Value.bool (by simp [MeetOk, hb])) (c_same 12 (v := .bool false) rfl (congrArg Value.bool (by simp [MeetOk, hb])) (c_seq fun K342 hK342 => (c_region (t_move rfl rfl rfl (t_cmp rfl rfl rfl rfl rfl (t_samehd (v := .bool true) rfl (t_move rfl rfl rfl (t_move rfl rfl rfl (t_not rfl rfl rfl (t_pick_t rfl rfl rfl rfl (t_move rfl rfl rfl (t_move rfl rfl rfl (t_not rfl rfl rfl (t_pick_t rfl rfl rfl rfl (t_move rfl rfl rfl (t_call (vs := []) own16 rfl rfl rfl rfl (known_c _) (fun v343 w344 r346 => ?_))))))))))))))))))
      obtain ⟨rfl, u345⟩ := r346
      have zu345 := u345.size
      have E347 := E341.next u345 (fun _ _ h => h.elim)
      refine t_pick_t rfl rfl rfl rfl (t_assign rfl rfl rfl (t_nil' (hK342 _ _ (c_ret (f_ret1 (v := .bool true) Try.results8 rfl ?_)))))
      exact ⟨rfl, E347⟩
     ·
      have hk2 : okVoy vb = true := by simpa using g121
      refine c_skip (hK334 _ _ (c_seq fun K348 hK348 => (c_region ?_)))
      have B349 := ((((((B302.keep u306 (fun h => h)).keep u312 (fun h => h)).keep u317 (fun h => h)).keep u321 (show ¬ (bk2 = bk309) by first | omega | assumption)).keep u326 (show ¬ (bk2 = bk314) by first | omega | assumption)).keep u339 (fun h => h))
      refine t_loadN (vs := [.int .i64 va.st.lo, .int .i64 va.st.hi, .slice ao1 ((va.runs).length) cap1, .int .i64 va.len, .int .i64 va.wid]) Try.isAgg48 Try.sizeOf48 rfl rfl rfl (B349.at.sub 0 5) rfl ?_
      have B350 := (B336.keep u339 (fun h => h))
      refine t_loadN (vs := [.int .i64 vb.st.lo, .int .i64 vb.st.hi, .slice ao2 ((vb.runs).length) cap2, .int .i64 vb.len, .int .i64 vb.wid]) Try.isAgg48 Try.sizeOf48 rfl rfl rfl (B350.at.sub 0 5) rfl ?_
      have B351 := ((((((B303.keep u306 (fun h => h)).keep u312 (fun h => h)).keep u317 (fun h => h)).keep u321 (show ¬ (bk12 = bk309) by first | omega | assumption)).keep u326 (show ¬ (bk12 = bk314) by first | omega | assumption)).keep u339 (fun h => h))
      refine t_loadN (vs := [.int .i64 n.frm, .int .i64 n.to, .int .i64 n.wid, .bool n.single]) Try.isAgg72 Try.sizeOf72 rfl rfl rfl (B351.at.sub 0 4) rfl (t_call (vs := [.agg #[.int .i64 va.st.lo, .int .i64 va.st.hi, .slice ao1 ((va.runs).length) cap1, .int .i64 va.len, .int .i64 va.wid], .agg #[.int .i64 vb.st.lo, .int .i64 vb.st.hi, .slice ao2 ((vb.runs).length) cap2, .int .i64 vb.len, .int .i64 vb.wid], .agg #[.int .i64 n.frm, .int .i64 n.to, .int .i64 n.wid, .bool n.single]]) own44 rfl rfl rfl rfl (rMeet_c va ao1 b1 o1 cap1 vb ao2 b2 o2 cap2 n _ (hs1.keep E341 (fun _ h => h)) (hs2.keep E341 (fun _ h => h)) hk1 hk2 hm) (fun v352 w353 r355 => ?_))
      obtain ⟨rfl, u354⟩ := r355
      have zu354 := u354.size
      have E356 := E341.next u354 (fun _ _ h => h.elim)
      refine t_move rfl rfl rfl (t_extract (vs := [.bool (MeetOk va vb n && mayB (thrS va n) (thrS vb n)), .bool (MeetOk va vb n && mustB (thrS va n) (thrS vb n)), .int .i64 (MeetE va vb n)]) rfl rfl rfl rfl (t_extract (vs := [.bool (MeetOk va vb n && mayB (thrS va n) (thrS vb n)), .bool (MeetOk va vb n && mustB (thrS va n) (thrS vb n)), .int .i64 (MeetE va vb n)]) rfl rfl rfl rfl (t_extract (vs := [.bool (MeetOk va vb n && mayB (thrS va n) (thrS vb n)), .bool (MeetOk va vb n && mustB (thrS va n) (thrS vb n)), .int .i64 (MeetE va vb n)]) rfl rfl rfl rfl (t_assign rfl rfl rfl (t_assign rfl rfl rfl (t_assign rfl rfl rfl (t_nil' (hK348 _ _ (c_seq fun K357 hK357 => (c_region (t_move rfl rfl rfl (t_move rfl rfl rfl (t_cmp rfl rfl rfl rfl rfl (t_samehd (v := .bool true) (by simp) (t_move rfl rfl rfl (t_move rfl rfl rfl (t_move rfl rfl rfl (t_eqB Try.underlying4 rfl rfl rfl rfl (t_samehd (v := .bool true) (by simp) (t_pick_t rfl rfl rfl rfl (t_move rfl rfl rfl (t_move rfl rfl rfl (t_move rfl rfl rfl ?_)))))))))))))))))))))))
      refine t_eqB Try.underlying4 rfl rfl rfl rfl (t_samehd (v := .bool true) (by simp) (t_pick_t rfl rfl rfl rfl (t_move rfl rfl rfl (t_call (vs := []) own16 rfl rfl rfl rfl (known_c _) (fun v358 w359 r361 => ?_)))))
      obtain ⟨rfl, u360⟩ := r361
      have zu360 := u360.size
      have E362 := E356.next u360 (fun _ _ h => h.elim)
      refine t_pick_t rfl rfl rfl rfl (t_assign rfl rfl rfl (t_nil' (hK357 _ _ (c_ret (f_ret1 (v := .bool true) Try.results8 rfl ?_)))))
      exact ⟨rfl, E362⟩

end Go.Proofs.Ytmicjleiheoieaa
