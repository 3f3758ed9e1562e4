/-
  The reference's Empty. Conditions: none.
-/
import Derived.Test.YtgkkgpenmppjcaaVB3
import Derived.Test.YtgkkgpenmppjcaaVMkn
namespace Go.Proofs.Ytgkkgpenmppjcaa
open Go Go.RowKit
theorem own48 : Own Try.prog 48 := ⟨Try.f48, Try.func48, by kernel_rfl, by kernel_rfl⟩

set_option maxHeartbeats 1000000 in
theorem Empty_c (bs : List Bil) (ab : Option Addr) (bb ob cb : Nat) (hs : List Hld) (ah : Option Addr) (bh oh ch : Nat) (w0 : World) (hbs : Sl encBil 3 w0 ab bb ob bs) (hhs : Sl encHld 2 w0 ah bh oh hs) (hbl : bs.length ≤ 1000000) (hhl : hs.length ≤ 1000000) :
    CallsV Try.prog 48 [.agg #[.slice ab bs.length cb, .slice ah hs.length ch]] w0 (fun v w' => ∃ R : RG, v = .agg R.cells.toArray ∧ R.st = emptyS bs.length hs.length ∧ RM w' R ∧ R.se = [] ∧ RB (fun k => w0.heap.size ≤ k) R ∧ Ext w0 w') := by
 refine f_enter (N := 16) Try.func48 rfl rfl rfl (c_seq fun K1 hK1 => (c_region (t_box (cs := [.slice ab bs.length cb, .slice ah hs.length ch]) rfl rfl rfl rfl (fun bk2 w3 ebk2 sbk2 B4 u5 => ?_))))
 have zu5 := u5.size
 refine t_alloc (cs := [.slice none 0 0, .slice none 0 0, .slice none 0 0, .slice none 0 0, .slice none 0 0]) Try.zeroValue47 rfl rfl rfl (fun bk7 w8 ebk7 sbk7 B9 u10 => ?_)
 have zu10 := u10.size
 refine t_nil' (hK1 _ _ (c_seq fun K12 hK12 => ?_))
 have B13 := (B4.kx u10)
 refine c_drawnS follows 14 12 [some (3, some (.pointer (some ⟨bk2, 1, none⟩))), some (4, some (.slice ah hs.length ch)), some (5, some (.int .i64 (hs.length : Int))), some (6, none), some (7, some (.pointer (some ⟨bk2, 1, none⟩))), some (8, some (.slice ah hs.length ch)), some (9, some (.int .i64 (hs.length : Int))), some (10, none), some (11, some (.pointer (some ⟨bk2, 0, none⟩))), some (12, some (.slice ab bs.length cb)), some (13, some (.int .i64 (bs.length : Int))), some (14, none)] [[],[0],[1],[2,2],[],[4],[5],[6,6],[],[8],[9],[10,10],[3,7,11],[12,0,1,2,3,4,5,6,7,8,9,10,11,12]] (fun D ρ w => Upd (fun _ => False) w8 w ∧ (D 3 = true → ∃ gH, ρ 3 = .slice (some ⟨gH, 0, none⟩) hs.length hs.length ∧ (Sl encRowL 1 w (some ⟨gH, 0, none⟩) gH 0 (List.replicate hs.length (⟨none, 0, 0, []⟩ : RowL)) ∧ w8.heap.size ≤ gH)) ∧ (D 7 = true → ∃ gS, ρ 7 = .slice (some ⟨gS, 0, none⟩) hs.length hs.length ∧ (Sl encBo 1 w (some ⟨gS, 0, none⟩) gS 0 (List.replicate hs.length false) ∧ w8.heap.size ≤ gS)) ∧ (D 11 = true → ∃ gL, ρ 11 = .slice (some ⟨gL, 0, none⟩) bs.length bs.length ∧ (Sl encI 1 w (some ⟨gL, 0, none⟩) gL 0 (List.replicate bs.length (0 : Int)) ∧ w8.heap.size ≤ gL))) rfl rfl rfl rfl (by kernel_rfl) (by kernel_rfl) (by kernel_rfl) ⟨(Upd.drew _).to, (fun h => by cases h), (fun h => by cases h), (fun h => by cases h)⟩ ⟨?_, ?_, ?_, ?_, ?_, ?_, ?_, ?_, ?_, ?_, ?_, ?_, trivial⟩ ?_
 · exact pzf Try.underlying25 rfl Try.sizeOf23 (1) rfl rfl rfl rfl rfl fun _ _ _ h => h
 · exact fun D ρ w14 hcD hnD hdD hW => ⟨_, kf_fr [3], fun Lr => t_load Try.isAgg23 rfl rfl rfl ((B13.kx hW.1).get rfl) (dz rfl hW)⟩
 · exact fun D ρ w21 hcD hnD hdD hW => ⟨_, kf_fr [4], fun Lr => t_len Try.underlying23 rfl rfl rfl rfl (dz rfl hW)⟩
 ·
  intro D ρ w27 hcD hnD hdD hW
  obtain ⟨u28, F29, F30, F31⟩ := hW
  have zu28 := u28.size
  refine ⟨_, kf_fr [5], fun Lr => ?_⟩
  refine t_makeN (enc := encRowL) (k := 1) (z := .slice none 0 0) (bytes := 24) (n := hs.length) (⟨none, 0, 0, []⟩ : RowL) Try.underlying33 (by kernel_rfl) rfl (by decide) (fun _ => rfl) (by decide) rfl rfl rfl rfl rfl (by omega) (fun gH w33 egH sgH A35 u34 => ?_)
  have zu34 := u34.size
  exact dzn rfl ⟨(u28.next u34 (fun _ _ h => h.elim)), (fun _ => ⟨gH, rfl, ⟨A35.sl (fun _ => rfl), by omega⟩⟩), (fun h => by obtain ⟨gS, e, hB⟩ := F30 h; exact ⟨gS, e, ⟨(hB.1.keep u34 (fun _ h => h)), hB.2⟩⟩), (fun h => by obtain ⟨gL, e, hB⟩ := F31 h; exact ⟨gL, e, ⟨(hB.1.keep u34 (fun _ h => h)), hB.2⟩⟩)⟩
 · exact pzf Try.underlying25 rfl Try.sizeOf23 (1) rfl rfl rfl rfl rfl fun _ _ _ h => h
 · exact fun D ρ w37 hcD hnD hdD hW => ⟨_, kf_fr [7], fun Lr => t_load Try.isAgg23 rfl rfl rfl ((B13.kx hW.1).get rfl) (dz rfl hW)⟩
 · exact fun D ρ w44 hcD hnD hdD hW => ⟨_, kf_fr [8], fun Lr => t_len Try.underlying23 rfl rfl rfl rfl (dz rfl hW)⟩
 ·
  intro D ρ w50 hcD hnD hdD hW
  obtain ⟨u51, F52, F53, F54⟩ := hW
  have zu51 := u51.size
  refine ⟨_, kf_fr [9], fun Lr => ?_⟩
  refine t_makeN (enc := encBo) (k := 1) (z := .bool false) (bytes := 1) (n := hs.length) false Try.underlying43 (by kernel_rfl) rfl (by decide) (fun _ => rfl) (by decide) rfl rfl rfl rfl rfl (by omega) (fun gS w56 egS sgS A58 u57 => ?_)
  have zu57 := u57.size
  exact dzn rfl ⟨(u51.next u57 (fun _ _ h => h.elim)), (fun h => by obtain ⟨gH, e, hB⟩ := F52 h; exact ⟨gH, e, ⟨(hB.1.keep u57 (fun _ h => h)), hB.2⟩⟩), (fun _ => ⟨gS, rfl, ⟨A58.sl (fun _ => rfl), by omega⟩⟩), (fun h => by obtain ⟨gL, e, hB⟩ := F54 h; exact ⟨gL, e, ⟨(hB.1.keep u57 (fun _ h => h)), hB.2⟩⟩)⟩
 · exact pzf Try.underlying25 rfl Try.sizeOf22 (0) rfl rfl rfl rfl rfl fun _ _ _ h => h
 · exact fun D ρ w60 hcD hnD hdD hW => ⟨_, kf_fr [11], fun Lr => t_load Try.isAgg22 rfl rfl rfl ((B13.kx hW.1).get rfl) (dz rfl hW)⟩
 · exact fun D ρ w67 hcD hnD hdD hW => ⟨_, kf_fr [12], fun Lr => t_len Try.underlying22 rfl rfl rfl rfl (dz rfl hW)⟩
 ·
  intro D ρ w73 hcD hnD hdD hW
  obtain ⟨u74, F75, F76, F77⟩ := hW
  have zu74 := u74.size
  refine ⟨_, kf_fr [13], fun Lr => ?_⟩
  refine t_makeN (enc := encI) (k := 1) (z := .int .i64 0) (bytes := 8) (n := bs.length) (0 : Int) Try.underlying45 (by kernel_rfl) rfl (by decide) (fun _ => rfl) (by decide) rfl rfl rfl rfl rfl (by omega) (fun gL w79 egL sgL A81 u80 => ?_)
  have zu80 := u80.size
  exact dzn rfl ⟨(u74.next u80 (fun _ _ h => h.elim)), (fun h => by obtain ⟨gH, e, hB⟩ := F75 h; exact ⟨gH, e, ⟨(hB.1.keep u80 (fun _ h => h)), hB.2⟩⟩), (fun h => by obtain ⟨gS, e, hB⟩ := F76 h; exact ⟨gS, e, ⟨(hB.1.keep u80 (fun _ h => h)), hB.2⟩⟩), (fun _ => ⟨gL, rfl, ⟨A81.sl (fun _ => rfl), by omega⟩⟩)⟩
 intro ρ w83 hW
 obtain ⟨u84, F85, F86, F87⟩ := hW
 have zu84 := u84.size
 obtain ⟨gH, e89, H90⟩ := F85 rfl
 have agegH := H90.2
 obtain ⟨gS, e91, H92⟩ := F86 rfl
 have agegS := H92.2
 obtain ⟨gL, e93, H94⟩ := F87 rfl
 have agegL := H94.2
 refine t_weak [(2, .pointer (some ⟨bk7, 0, none⟩)), (6, .slice (some ⟨gH, 0, none⟩) hs.length hs.length), (10, .slice (some ⟨gS, 0, none⟩) hs.length hs.length), (14, .slice (some ⟨gL, 0, none⟩) bs.length bs.length)] ⟨rfl, (look_nd (j := 3) rfl rfl rfl e89), (look_nd (j := 7) rfl rfl rfl e91), (look_nd (j := 11) rfl rfl rfl e93), trivial⟩ (t_build (ps := [(0, .slice (some ⟨gH, 0, none⟩) hs.length hs.length), (1, .slice (some ⟨gS, 0, none⟩) hs.length hs.length), (3, .slice (some ⟨gL, 0, none⟩) bs.length bs.length)]) (v := .agg #[.slice (some ⟨gH, 0, none⟩) hs.length hs.length, .slice (some ⟨gS, 0, none⟩) hs.length hs.length, .slice none 0 0, .slice (some ⟨gL, 0, none⟩) bs.length bs.length, .slice none 0 0]) rfl rfl ⟨rfl, rfl⟩ (fun w => by kernel_rfl) ?_)
 have B95 := (B9.kx u84)
 refine t_st (vs := [.slice (some ⟨gH, 0, none⟩) hs.length hs.length, .slice (some ⟨gS, 0, none⟩) hs.length hs.length, .slice none 0 0, .slice (some ⟨gL, 0, none⟩) bs.length bs.length, .slice none 0 0]) Try.sizeOf47 rfl rfl rfl B95 rfl rfl rfl rfl (fun w96 sw96 B98 u97 => ?_)
 have zu97 := u97.size
 have B98 : Blk w96 bk7 47 [.slice (some ⟨gH, 0, none⟩) hs.length hs.length, .slice (some ⟨gS, 0, none⟩) hs.length hs.length, .slice none 0 0, .slice (some ⟨gL, 0, none⟩) bs.length bs.length, .slice none 0 0] := B98
 refine t_nil' (hK12 _ _ (c_ret (f_ret1 (v := .agg #[.slice (some ⟨gH, 0, none⟩) hs.length hs.length, .slice (some ⟨gS, 0, none⟩) hs.length hs.length, .slice none 0 0, .slice (some ⟨gL, 0, none⟩) bs.length bs.length, .slice none 0 0]) Try.results48 ⟨_, _, rfl, run_loadVarN (vs := [.slice (some ⟨gH, 0, none⟩) hs.length hs.length, .slice (some ⟨gS, 0, none⟩) hs.length hs.length, .slice none 0 0, .slice (some ⟨gL, 0, none⟩) bs.length bs.length, .slice none 0 0]) Try.isAgg47 Try.sizeOf47 rfl (B98.at.sub 0 5)⟩ ?_)))
 have D100 := (H90.1.keep u97 (fun hp => by have h9 := H90.2; show ¬ (gH = bk7); omega))
 have D101 := (H92.1.keep u97 (fun hp => by have h9 := H92.2; show ¬ (gS = bk7); omega))
 have D102 := (H94.1.keep u97 (fun hp => by have h9 := H94.2; show ¬ (gL = bk7); omega))
 exact ⟨⟨some ⟨gH, 0, none⟩, gH, hs.length, List.replicate hs.length ⟨none, 0, 0, []⟩, some ⟨gS, 0, none⟩, gS, hs.length, List.replicate hs.length false, none, 0, 0, [], some ⟨gL, 0, none⟩, gL, bs.length, List.replicate bs.length 0, none, 0, 0, []⟩, by simp [RG.cells], by simp [RG.st, emptyS], ⟨D100, (fun r hr => by rw [(List.mem_replicate.1 hr).2]; exact ⟨Sl.nil _ _ _ _ _ _, (fun x hx => by cases hx)⟩), D101, Sl.nil _ _ _ _ _ _, (fun x hx => by cases hx), D102, Sl.nil _ _ _ _ _ _⟩, rfl, ⟨fun _ => by show _ ≤ gH; omega, (fun r hr => by rw [(List.mem_replicate.1 hr).2]; exact ⟨(fun hp => by cases hp), (fun x hx => by cases hx)⟩), fun _ => by show _ ≤ gS; omega, (fun hp => by cases hp), (fun q hq => by cases hq), fun _ => by show _ ≤ gL; omega, (fun hp => by cases hp)⟩, (((((Upd.refl (fun _ => False) w0).nx u5).nx u10).nx u84).next u97 (fun i hi h => by omega))⟩

end Go.Proofs.Ytgkkgpenmppjcaa
