/-
  The law TraceTruths: the walk. Conditions: none.
-/
import Derived.Test.YtgkkgpenmppjcaaC1
import Derived.Test.YtgkkgpenmppjcaaIdv
import Derived.Test.YtgkkgpenmppjcaaUnr
namespace Go.Proofs.Ytgkkgpenmppjcaa
open Go Go.RowKit

/-- Five small numbers. -/
structure X5 where
  a : Int
  b : Int
  c : Int
  d : Int
  e : Int
instance : Inhabited X5 := ⟨⟨default, default, default, default, default⟩⟩
def encX5 (x : X5) : List Value := [.int .u8 x.a, .int .u8 x.b, .int .u8 x.c, .int .u8 x.d, .int .u8 x.e]
theorem Acc.lenLe {α : Type} {enc : α → List Value} {k : Nat} {e : TypeId} {base : Nat} {w : World} {ao : Option Addr} {g cap : Nat} {xs : List α} (h : Acc enc k e base w ao g cap xs) : xs.length ≤ cap := by
  rcases h.at_ with ⟨_, h2, _⟩ | ⟨_, _, _, _, h4, _⟩
  · subst h2; exact Nat.zero_le _
  · exact h4
def okX5 (x : X5) : Prop := (0 ≤ x.a ∧ x.a ≤ 255) ∧ (0 ≤ x.b ∧ x.b ≤ 255) ∧ (0 ≤ x.c ∧ x.c ≤ 255) ∧ (0 ≤ x.d ∧ x.d ≤ 255) ∧ (0 ≤ x.e ∧ x.e ≤ 255)
theorem own9 : Own Try.prog 9 := ⟨Try.f9, Try.func9, by kernel_rfl, by kernel_rfl⟩

theorem LossesT_c (us : List Sur) (tr : List Int) (L : Int) (n m : Nat) (hm : m = n) (hn : n ≤ us.length) (ht : TrOk us tr L) (ao : Option Addr) (b o cap : Nat) (w0 : World) (hl : Sl encSur 4 w0 ao b o (us.take n)) (hll : us.length ≤ 100) : CallsV Try.prog 28 [.slice ao m cap] w0 (fun v w' => (∃ g M, v = .tuple #[.slice (some ⟨g, 0, none⟩) n n, .int .i64 0, .int .i64 0] ∧ Sl encBd 2 w' (some ⟨g, 0, none⟩) g 0 M ∧ M.length = n ∧ LosR (spK us n) 0 M) ∧ Ext w0 w') := by
  subst hm
  have hlen : (us.take m).length = m := by rw [List.length_take]; omega
  have hc := Losses_c (us.take m) ao b o cap w0 hl (by omega)
  rw [hlen] at hc
  refine hc.mono ?_
  rintro v w' ⟨h, u⟩
  refine ⟨?_, u⟩
  unfold LosPost at h
  rw [ht.run hn, hlen] at h
  rcases h with ⟨h1, _⟩ | ⟨_, h1, _⟩ | ⟨_, _, ⟨i, h1, _⟩ | ⟨_, g, M, h1, h2, h3, h4⟩⟩
  · omega
  · obtain ⟨x, hx, h2⟩ := List.any_eq_true.1 h1
    obtain ⟨i, hi, rfl⟩ := List.mem_iff_getElem.1 (List.mem_of_mem_take hx)
    have h3 := ht.sur i hi
    rw [nth_eq hi] at h3
    rw [h3] at h2
    cases h2
  · injection h1 with _ h1
    omega
  · exact ⟨g, M, h1, h2, h3, h4⟩

set_option maxHeartbeats 4000000 in
theorem TraceTruths_c (xs : List X5) (ao : Option Addr) (b o cap : Nat) (w0 : World) (hl : Sl encX5 5 w0 ao b o xs) (hll : xs.length ≤ 9223372036854775807) (hxs : ∀ x ∈ xs, okX5 x) :
    CallsV Try.prog 9 [.slice ao xs.length cap] w0 (fun v w' => v = .bool true ∧ Ext w0 w') := by
 have E0 := Upd.refl (fun _ => False) w0
 refine f_enter (N := 315) Try.func9 rfl rfl rfl ?_
 change WC _ _ _ _ _ _ [(0, .slice ao xs.length cap)] _
 refine c_seq fun K1 hK1 => (c_region (t_assign rfl rfl rfl (t_nil' (hK1 _ _ (c_seq fun K2 hK2 => (c_region (t_bslice (ps := []) (cs := []) (e := 79) rfl rfl ⟨rfl, rfl⟩ (fun w => by kernel_rfl) (fun bk3 w4 ebk3 sbk3 B5 u6 => ?_))))))))
 have zu6 := u6.size
 have E7 := E0.next u6 (fun _ _ h => h.elim)
 refine t_bslice (ps := []) (cs := []) (e := 3) rfl rfl ⟨rfl, rfl⟩ (fun w => by kernel_rfl) (fun bk8 w9 ebk8 sbk8 B10 u11 => ?_)
 have zu11 := u11.size
 have E12 := E7.next u11 (fun _ _ h => h.elim)
 refine t_assign rfl rfl rfl (t_assign rfl rfl rfl (t_assign rfl rfl rfl (t_nil' (hK2 _ _ (c_seq fun K13 hK13 => (c_seq fun K14 hK14 => (c_region (t_assign rfl rfl rfl (t_nil' (hK14 _ _ (c_block ?_)))))))))))
 have B15 := (B5.keep u11 (fun h => h))
 have hl3 := B15.lt
 have hl4 := B10.lt
 have hac3 : Acc encSur 4 79 bk3 w9 (some ⟨bk3, 0, none⟩) bk3 0 [] := Acc.ofBlk (xs := ([] : List Sur)) encSur 4 (fun _ => rfl) B15 (Nat.le_refl _) (by decide)
 have hac4 : Acc encI 1 3 bk8 w9 (some ⟨bk8, 0, none⟩) bk8 0 [] := Acc.ofBlk (xs := ([] : List Int)) encI 1 (fun _ => rfl) B10 (Nat.le_refl _) (by decide)
 refine c_loop (γ := Nat × Int × Option Addr × Nat × Nat × List Sur × Option Addr × Nat × Nat × List Int) (fun gg => [(0, .slice ao xs.length cap), (3, .slice gg.2.2.1 gg.2.2.2.2.2.1.length gg.2.2.2.2.1), (4, .slice gg.2.2.2.2.2.2.1 gg.2.2.2.2.2.2.2.2.2.length gg.2.2.2.2.2.2.2.2.1), (5, .int .i64 gg.2.1), (6, .int .i64 (gg.1 : Int))]) (fun gg w => Upd (fun i => i = bk3 ∨ i = bk8) w9 w ∧ (gg.1 ≤ xs.length) ∧ (gg.1 ≤ 20) ∧ (gg.2.2.2.2.2.1.length = gg.1) ∧ (TrOk gg.2.2.2.2.2.1 gg.2.2.2.2.2.2.2.2.2 gg.2.1) ∧ (Acc encSur 4 79 bk3 w gg.2.2.1 gg.2.2.2.1 gg.2.2.2.2.1 gg.2.2.2.2.2.1) ∧ (Acc encI 1 3 bk8 w gg.2.2.2.2.2.2.1 gg.2.2.2.2.2.2.2.1 gg.2.2.2.2.2.2.2.2.1 gg.2.2.2.2.2.2.2.2.2) ∧ (gg.2.2.2.1 = bk3 ∨ w9.heap.size ≤ gg.2.2.2.1) ∧ (gg.2.2.2.2.2.2.2.1 = bk8 ∨ w9.heap.size ≤ gg.2.2.2.2.2.2.2.1) ∧ (gg.2.2.2.1 ≠ gg.2.2.2.2.2.2.2.1)) (fun gg => xs.length - gg.1) (0, 0, some ⟨bk3, 0, none⟩, bk3, 0, [], some ⟨bk8, 0, none⟩, bk8, 0, []) ⟨rfl, rfl, rfl, rfl, rfl, trivial⟩ ⟨Upd.refl _ _, (Nat.zero_le _), (Nat.zero_le _), rfl, TrOk.nil, hac3, hac4, (.inl rfl), (.inl rfl), (by show bk3 ≠ bk8; omega)⟩ ?_
 intro gg w17 hW K16 hK16
 obtain ⟨k, ls, ao3, g3, c3, us, ao4, g4, c4, tr⟩ := gg
 change WC _ _ _ _ _ _ [(0, .slice ao xs.length cap), (3, .slice ao3 us.length c3), (4, .slice ao4 tr.length c4), (5, .int .i64 ls), (6, .int .i64 (k : Int))] _
 change Upd (fun i => i = bk3 ∨ i = bk8) w9 w17 ∧ (k ≤ xs.length) ∧ (k ≤ 20) ∧ (us.length = k) ∧ (TrOk us tr ls) ∧ (Acc encSur 4 79 bk3 w17 ao3 g3 c3 us) ∧ (Acc encI 1 3 bk8 w17 ao4 g4 c4 tr) ∧ (g3 = bk3 ∨ w9.heap.size ≤ g3) ∧ (g4 = bk8 ∨ w9.heap.size ≤ g4) ∧ (g3 ≠ g4) at hW
 obtain ⟨u18, I19, I20, I21, I22, I23, I24, I25, I26, I27⟩ := hW
 have zu18 := u18.size
 have E28 := E12.next u18 (fun i hi (h : i = bk3 ∨ i = bk8) => show False by first | omega | assumption)
 have hk := I19; clear I19
 have hk20 := I20; clear I20
 have hul := I21; clear I21
 have hT := I22; clear I22
 have ha3 := I23; clear I23
 have ha4 := I24; clear I24
 have hg3 := I25; clear I25
 have hg4 := I26; clear I26
 have hg34 := I27; clear I27
 have lt_g3 := ha3.lt
 have lt_g4 := ha4.lt
 have hLr := hT.rng
 have htl := hT.len
 refine c_seq fun K29 hK29 => (c_cut (γ := Bool) (fun q => [(0, .slice ao xs.length cap), (3, .slice ao3 us.length c3), (4, .slice ao4 tr.length c4), (5, .int .i64 ls), (6, .int .i64 (k : Int)), (28, .bool q)]) (fun q w => Upd (fun _ => False) w17 w ∧ (q = true → (k < xs.length ∧ k < 20))) (fun K31 hK31 => ?_) ?_)
 ·
  refine c_region (t_move rfl rfl rfl (t_move rfl rfl rfl (t_len Try.underlying84 rfl rfl rfl rfl (t_cmp rfl rfl rfl rfl rfl (t_move rfl rfl rfl (t_splitp 25 rfl (fun g25 => ?_) (fun g25 => ?_)))))))
  ·
   refine t_move rfl rfl rfl (t_cmp rfl rfl rfl rfl rfl (t_pick_t rfl rfl rfl rfl (t_nil' ?_)))
   exact hK31 (decide ((k : Int) < 20)) _ _ ⟨rfl, rfl, rfl, rfl, rfl, rfl, trivial⟩ ⟨(Upd.refl _ _), (fun h => by have h9 := of_decide_eq_true h; omega)⟩
  ·
   refine t_skip rfl rfl rfl (t_skip rfl rfl rfl (t_pick_f rfl rfl rfl rfl (t_nil' ?_)))
   exact hK31 false _ _ ⟨rfl, rfl, rfl, rfl, rfl, rfl, trivial⟩ ⟨(Upd.refl _ _), (fun h => by cases h)⟩
 ·
  intro q w32 hW
  obtain ⟨u33, I34⟩ := hW
  have zu33 := u33.size
  have E35 := E28.next u33 (fun _ _ h => h.elim)
  have hq := I34; clear I34
  refine c_cond rfl (fun g28 => ?_) (fun g28 => ?_)
  ·
   have hq9 := hq g28
   refine c_skip (hK29 _ _ (c_seq fun K36 hK36 => (c_block (c_seq fun K37 hK37 => ?_))))
   have hxr := hxs _ (nth_mem (xs := xs) (i := k) (by omega))
   unfold okX5 at hxr
   refine WC.weak [(0, .slice ao xs.length cap), (3, .slice ao3 us.length c3), (4, .slice ao4 tr.length c4), (5, .int .i64 ls), (6, .int .i64 (k : Int))] ⟨rfl, rfl, rfl, rfl, rfl, trivial⟩ (c_drawn follows 18 [some (31, some (.slice ao xs.length cap)), some (32, some (.int .i64 (k : Int))), some (33, some (.pointer (some ⟨b, o + k * 5, none⟩))), some (34, some (.pointer (some ⟨b, o + k * 5 + 0, none⟩))), some (35, some (.int .u8 ((nth xs k).a))), some (36, some (.int .i64 ((nth xs k).a))), some (37, some (.int .i64 (9 * ((nth xs k).a)))), some (38, some (.int .i64 (6000 + (9 * ((nth xs k).a))))), some (39, some (.slice ao xs.length cap)), some (40, some (.int .i64 (k : Int))), some (41, some (.pointer (some ⟨b, o + k * 5, none⟩))), some (42, some (.pointer (some ⟨b, o + k * 5 + 1, none⟩))), some (43, some (.int .u8 ((nth xs k).b))), some (44, some (.int .u8 (((nth xs k).b) % 3))), some (45, some (.bool (decide ((((nth xs k).b) % 3) = 0)))), some (46, some (.agg #[.int .i64 (6000 + (9 * ((nth xs k).a))), .int .i64 0, .int .i64 0, .bool (decide ((((nth xs k).b) % 3) = 0))])), some (7, none), none] [[],[],[0,1],[2],[3],[4],[5],[6],[],[],[8,9],[10],[11],[12],[13],[7,14],[],[16,15,0,1,2,3,4,5,6,7,8,9,10,11,12,13,14,15,16]] (fun D ρ w => Upd (fun _ => False) w32 w ∧ (D 16 = true → ∃ bk40, ρ 16 = .pointer (some ⟨bk40, 0, none⟩) ∧ w32.heap.size ≤ bk40 ∧ Blk w bk40 79 [(bif D 17 then .int .i64 (6000 + (9 * ((nth xs k).a))) else .int .i64 0), (bif D 17 then .int .i64 0 else .int .i64 0), (bif D 17 then .int .i64 0 else .int .i64 0), (bif D 17 then .bool (decide ((((nth xs k).b) % 3) = 0)) else .bool false)])) rfl rfl rfl (by kernel_rfl) (by kernel_rfl) ⟨(Upd.drew _).to, (fun h => by cases h)⟩ ⟨?_, ?_, ?_, ?_, ?_, ?_, ?_, ?_, ?_, ?_, ?_, ?_, ?_, ?_, ?_, ?_, ?_, ?_, trivial⟩ ?_)
   · exact pz rfl rfl rfl rfl fun _ _ _ h => h
   · exact pz rfl rfl rfl rfl fun _ _ _ h => h
   ·
    intro D ρ w45 hcD hnD hdD hW
    obtain ⟨u46, F47⟩ := hW
    have zu46 := u46.size
    have E48 := E35.next u46 (fun _ _ h => h.elim)
    refine ⟨_, kf_fr [31, 32], fun Lr => ?_⟩
    have i49 : k < xs.length := (by omega)
    refine t_index (j := k) Try.underlying84 Try.sizeOf103 rfl rfl rfl rfl ((hl.keep E48 (fun _ h => h)).addr (by omega)) rfl i49 ?_
    exact dz rfl ⟨u46, F47⟩
   · exact fun D ρ w50 hcD hnD hdD hW => ⟨_, kf_fr [33], fun Lr => t_indexArr (j := 0) (o + k * 5 + 0) Try.underlying103 Try.sizeOf5 rfl rfl rfl rfl rfl (by decide) rfl (dz rfl hW)⟩
   ·
    intro D ρ w54 hcD hnD hdD hW
    obtain ⟨u55, F56⟩ := hW
    have zu55 := u55.size
    have E57 := E35.next u55 (fun _ _ h => h.elim)
    refine ⟨_, kf_fr [34], fun Lr => ?_⟩
    refine t_load Try.isAgg5 rfl rfl rfl (((hl.keep E57 (fun _ h => h)).at_ k (by omega)) 0 _ rfl) ?_
    exact dz rfl ⟨u55, F56⟩
   · exact fun D ρ w58 hcD hnD hdD hW => ⟨_, kf_fr [35], fun Lr => t_conv Try.underlying5 Try.underlying3 rfl rfl rfl (IntWalk.i64_in _ (by omega)) (dz rfl hW)⟩
   · exact fun D ρ w62 hcD hnD hdD hW => ⟨_, kf_fr [36], fun Lr => t_ari rfl rfl rfl rfl rfl (by omega) (dz rfl hW)⟩
   · exact fun D ρ w66 hcD hnD hdD hW => ⟨_, kf_fr [37], fun Lr => t_ari rfl rfl rfl rfl rfl (by omega) (dz rfl hW)⟩
   · exact pz rfl rfl rfl rfl fun _ _ _ h => h
   · exact pz rfl rfl rfl rfl fun _ _ _ h => h
   ·
    intro D ρ w70 hcD hnD hdD hW
    obtain ⟨u71, F72⟩ := hW
    have zu71 := u71.size
    have E73 := E35.next u71 (fun _ _ h => h.elim)
    refine ⟨_, kf_fr [39, 40], fun Lr => ?_⟩
    have i74 : k < xs.length := (by omega)
    refine t_index (j := k) Try.underlying84 Try.sizeOf103 rfl rfl rfl rfl ((hl.keep E73 (fun _ h => h)).addr (by omega)) rfl i74 ?_
    exact dz rfl ⟨u71, F72⟩
   · exact fun D ρ w75 hcD hnD hdD hW => ⟨_, kf_fr [41], fun Lr => t_indexArr (j := 1) (o + k * 5 + 1) Try.underlying103 Try.sizeOf5 rfl rfl rfl rfl rfl (by decide) rfl (dz rfl hW)⟩
   ·
    intro D ρ w79 hcD hnD hdD hW
    obtain ⟨u80, F81⟩ := hW
    have zu80 := u80.size
    have E82 := E35.next u80 (fun _ _ h => h.elim)
    refine ⟨_, kf_fr [42], fun Lr => ?_⟩
    refine t_load Try.isAgg5 rfl rfl rfl (((hl.keep E82 (fun _ h => h)).at_ k (by omega)) 1 _ rfl) ?_
    exact dz rfl ⟨u80, F81⟩
   · exact fun D ρ w83 hcD hnD hdD hW => ⟨_, kf_fr [43], fun Lr => t_rem8 rfl rfl rfl rfl (by omega) (by omega) (dz rfl hW)⟩
   · exact pz rfl rfl rfl rfl fun _ _ _ h => h
   · exact fun D ρ w _ _ _ hW => ⟨[(38, .int .i64 (6000 + (9 * ((nth xs k).a)))), (45, .bool (decide ((((nth xs k).b) % 3) = 0)))], ⟨fi 7 rfl rfl rfl, fi 14 rfl rfl rfl, trivial⟩, fun Lr => t_build (ps := [(0, .int .i64 (6000 + (9 * ((nth xs k).a)))), (2, .bool (decide ((((nth xs k).b) % 3) = 0)))]) (v := .agg #[.int .i64 (6000 + (9 * ((nth xs k).a))), .int .i64 0, .int .i64 0, .bool (decide ((((nth xs k).b) % 3) = 0))]) rfl rfl ⟨rfl, rfl⟩ (fun w => by kernel_rfl) (dz rfl hW)⟩
   ·
    intro D ρ w87 hcD hnD hdD hW
    obtain ⟨u88, F89⟩ := hW
    have zu88 := u88.size
    refine ⟨[], trivial, fun Lr => ?_⟩
    refine t_alloc (cs := [.int .i64 0, .int .i64 0, .int .i64 0, .bool false]) Try.zeroValue79 rfl rfl rfl (fun bk91 w92 ebk91 sbk91 B93 u94 => ?_)
    have zu94 := u94.size
    have d17 := hcD.late 17 hnD rfl
    exact dzn rfl ⟨(u88.next u94 (fun _ _ h => h.elim)), (fun _ => ⟨bk91, rfl, (by omega), (by show Blk w92 bk91 79 [(bif D 17 then .int .i64 (6000 + (9 * ((nth xs k).a))) else .int .i64 0), (bif D 17 then .int .i64 0 else .int .i64 0), (bif D 17 then .int .i64 0 else .int .i64 0), (bif D 17 then .bool (decide ((((nth xs k).b) % 3) = 0)) else .bool false)]; simp only [d17, cond_false]; exact B93)⟩)⟩
   ·
    intro D ρ w96 hcD hnD hdD hW
    obtain ⟨u97, F98⟩ := hW
    have zu97 := u97.size
    obtain ⟨bk40, e100, gebk40, B101⟩ := F98 (hdD 16 rfl)
    have B102 := B101
    simp only [hnD, cond_false] at B102
    refine ⟨[(7, .pointer (some ⟨bk40, 0, none⟩)), (46, .agg #[.int .i64 (6000 + (9 * ((nth xs k).a))), .int .i64 0, .int .i64 0, .bool (decide ((((nth xs k).b) % 3) = 0))])], ⟨fi 16 rfl rfl e100.symm, fi 15 rfl rfl rfl, trivial⟩, fun Lr => ?_⟩
    refine t_store (vs := [.int .i64 (6000 + (9 * ((nth xs k).a))), .int .i64 0, .int .i64 0, .bool (decide ((((nth xs k).b) % 3) = 0))]) Try.sizeOf79 rfl rfl rfl B102 rfl rfl (Nat.le_of_ble_eq_true rfl) (by simp [Value.oneCell']) (fun w103 sw103 B105 u104 => ?_)
    have zu104 := u104.size
    have B105 : Blk w103 bk40 79 [.int .i64 (6000 + (9 * ((nth xs k).a))), .int .i64 0, .int .i64 0, .bool (decide ((((nth xs k).b) % 3) = 0))] := B105
    exact dz0 rfl ⟨(u97.next u104 (fun i hi (h : i = bk40) => show False by first | omega | assumption)), (fun _ => ⟨bk40, e100, gebk40, (by show Blk w103 bk40 79 [.int .i64 (6000 + (9 * ((nth xs k).a))), .int .i64 0, .int .i64 0, .bool (decide ((((nth xs k).b) % 3) = 0))]; exact B105)⟩)⟩
   intro ρ w107 hW
   obtain ⟨u108, F109⟩ := hW
   have zu108 := u108.size
   have E110 := E35.next u108 (fun _ _ h => h.elim)
   obtain ⟨bk40, e111, gebk40, B112⟩ := F109 rfl
   have B112 : Blk w107 bk40 79 [.int .i64 (6000 + (9 * ((nth xs k).a))), .int .i64 0, .int .i64 0, .bool (decide ((((nth xs k).b) % 3) = 0))] := B112
   have lt_bk40 := B112.lt
   refine QK.weak [(0, .slice ao xs.length cap), (3, .slice ao3 us.length c3), (4, .slice ao4 tr.length c4), (5, .int .i64 ls), (6, .int .i64 (k : Int)), (7, .pointer (some ⟨bk40, 0, none⟩))] ⟨rfl, rfl, rfl, rfl, rfl, (look_nd (j := 16) rfl rfl rfl e111), trivial⟩ (hK37 _ _ (c_seq fun K113 hK113 => (c_seq fun K114 hK114 => (c_region (t_field Try.underlying79 rfl Try.sizeOf4 (3) rfl rfl rfl rfl (t_load Try.isAgg4 rfl rfl rfl (B112.get rfl) (t_notp rfl rfl rfl (t_nil' (hK114 _ _ (c_condp rfl (fun g49 => ?_) (fun g49 => ?_)))))))))))
   ·
    refine c_region (t_move rfl rfl rfl (t_move rfl rfl rfl (t_move rfl rfl rfl ?_)))
    have i115 : k < xs.length := (by omega)
    refine t_index (j := k) Try.underlying84 Try.sizeOf103 rfl rfl rfl rfl ((hl.keep E110 (fun _ h => h)).addr (by omega)) rfl i115 (t_indexArr (j := 2) (o + k * 5 + 2) Try.underlying103 Try.sizeOf5 rfl rfl rfl rfl rfl (by decide) rfl (t_load Try.isAgg5 rfl rfl rfl (((hl.keep E110 (fun _ h => h)).at_ k (by omega)) 2 _ rfl) (t_conv Try.underlying5 Try.underlying3 rfl rfl rfl (IntWalk.i64_in _ (by omega)) (t_rem rfl rfl rfl rfl (by omega) (by omega) (t_ari rfl rfl rfl rfl rfl (by omega) (t_assign rfl rfl rfl (t_nil' (hK113 _ _ (c_seq fun K116 hK116 => (WC.weak [(0, .slice ao xs.length cap), (3, .slice ao3 us.length c3), (4, .slice ao4 tr.length c4), (5, .int .i64 (ls + (((nth xs k).c) % 60))), (6, .int .i64 (k : Int)), (7, .pointer (some ⟨bk40, 0, none⟩))] ⟨rfl, rfl, rfl, rfl, rfl, rfl, trivial⟩ (c_drawn follows 27 [some (59, some (.pointer (some ⟨bk40, 0, none⟩))), some (60, some (.int .i64 (6000 + (9 * ((nth xs k).a))))), some (61, some (.int .i64 (ls + (((nth xs k).c) % 60)))), some (62, some (.int .i64 ((6000 + (9 * ((nth xs k).a))) - (ls + (((nth xs k).c) % 60))))), some (63, some (.slice ao xs.length cap)), some (64, some (.int .i64 (k : Int))), some (65, some (.pointer (some ⟨b, o + k * 5, none⟩))), some (66, some (.pointer (some ⟨b, o + k * 5 + 3, none⟩))), some (67, some (.int .u8 ((nth xs k).d))), some (68, some (.int .i64 ((nth xs k).d))), some (69, some (.int .i64 (((nth xs k).d) % 40))), some (70, some (.int .i64 (((6000 + (9 * ((nth xs k).a))) - (ls + (((nth xs k).c) % 60))) - (((nth xs k).d) % 40)))), some (71, some (.pointer (some ⟨bk40, 0, none⟩))), some (72, some (.int .i64 (6000 + (9 * ((nth xs k).a))))), some (73, some (.int .i64 (ls + (((nth xs k).c) % 60)))), some (74, some (.int .i64 ((6000 + (9 * ((nth xs k).a))) - (ls + (((nth xs k).c) % 60))))), some (75, some (.slice ao xs.length cap)), some (76, some (.int .i64 (k : Int))), some (77, some (.pointer (some ⟨b, o + k * 5, none⟩))), some (78, some (.pointer (some ⟨b, o + k * 5 + 4, none⟩))), some (79, some (.int .u8 ((nth xs k).e))), some (80, some (.int .i64 ((nth xs k).e))), some (81, some (.int .i64 (((nth xs k).e) % 40))), some (82, some (.int .i64 (((6000 + (9 * ((nth xs k).a))) - (ls + (((nth xs k).c) % 60))) + (((nth xs k).e) % 40)))), some (83, some (.agg #[.int .i64 (((6000 + (9 * ((nth xs k).a))) - (ls + (((nth xs k).c) % 60))) - (((nth xs k).d) % 40)), .int .i64 (((6000 + (9 * ((nth xs k).a))) - (ls + (((nth xs k).c) % 60))) + (((nth xs k).e) % 40))])), some (84, some (.pointer (some ⟨bk40, 1, none⟩))), none] [[],[0],[],[1,2],[],[],[4,5],[6],[7],[8],[9],[3,10],[],[12],[],[13,14],[],[],[16,17],[18],[19],[20],[21],[15,22],[11,23],[0,1,2,3,4,5,6,7,8,9,10,11,12,13,14,15,16,17,18,19,20,21,22,23,24],[25,24,0,1,2,3,4,5,6,7,8,9,10,11,12,13,14,15,16,17,18,19,20,21,22,23,24]] (fun D _ w => Upd (fun i => i = bk40) w107 w ∧ Blk w bk40 79 [.int .i64 (6000 + (9 * ((nth xs k).a))), (bif D 26 then .int .i64 (((6000 + (9 * ((nth xs k).a))) - (ls + (((nth xs k).c) % 60))) - (((nth xs k).d) % 40)) else .int .i64 0), (bif D 26 then .int .i64 (((6000 + (9 * ((nth xs k).a))) - (ls + (((nth xs k).c) % 60))) + (((nth xs k).e) % 40)) else .int .i64 0), .bool (decide ((((nth xs k).b) % 3) = 0))]) rfl rfl rfl (by kernel_rfl) (by kernel_rfl) ⟨(Upd.drew _).to, (B112.keep (Upd.drew _) (fun h => h))⟩ ⟨?_, ?_, ?_, ?_, ?_, ?_, ?_, ?_, ?_, ?_, ?_, ?_, ?_, ?_, ?_, ?_, ?_, ?_, ?_, ?_, ?_, ?_, ?_, ?_, ?_, ?_, ?_, trivial⟩ ?_)))))))))))
    · exact pzf Try.underlying79 rfl Try.sizeOf3 (0) rfl rfl rfl rfl rfl fun _ _ _ h => h
    ·
     intro D ρ w119 hcD hnD hdD hW
     obtain ⟨u120, B121⟩ := hW
     have zu120 := u120.size
     have d26 := hcD.late 26 hnD rfl
     have B123 := B121
     simp only [d26, cond_false] at B123
     refine ⟨_, kf_fr [59], fun Lr => ?_⟩
     refine t_load Try.isAgg3 rfl rfl rfl (B123.get rfl) ?_
     exact dz rfl ⟨u120, B121⟩
    · exact pz rfl rfl rfl rfl fun _ _ _ h => h
    ·
     intro D ρ w124 hcD hnD hdD hW
     obtain ⟨u125, B126⟩ := hW
     have zu125 := u125.size
     have d26 := hcD.late 26 hnD rfl
     have B128 := B126
     simp only [d26, cond_false] at B128
     refine ⟨_, kf_fr [60, 61], fun Lr => ?_⟩
     refine t_ari rfl rfl rfl rfl rfl (by omega) ?_
     exact dz rfl ⟨u125, B126⟩
    · exact pz rfl rfl rfl rfl fun _ _ _ h => h
    · exact pz rfl rfl rfl rfl fun _ _ _ h => h
    ·
     intro D ρ w129 hcD hnD hdD hW
     obtain ⟨u130, B131⟩ := hW
     have zu130 := u130.size
     have E132 := E110.next u130 (fun i hi (h : i = bk40) => show False by first | omega | assumption)
     have d26 := hcD.late 26 hnD rfl
     have B133 := B131
     simp only [d26, cond_false] at B133
     refine ⟨_, kf_fr [63, 64], fun Lr => ?_⟩
     have i134 : k < xs.length := (by omega)
     refine t_index (j := k) Try.underlying84 Try.sizeOf103 rfl rfl rfl rfl ((hl.keep E132 (fun _ h => h)).addr (by omega)) rfl i134 ?_
     exact dz rfl ⟨u130, B131⟩
    ·
     intro D ρ w135 hcD hnD hdD hW
     obtain ⟨u136, B137⟩ := hW
     have zu136 := u136.size
     have d26 := hcD.late 26 hnD rfl
     have B139 := B137
     simp only [d26, cond_false] at B139
     refine ⟨_, kf_fr [65], fun Lr => ?_⟩
     refine t_indexArr (j := 3) (o + k * 5 + 3) Try.underlying103 Try.sizeOf5 rfl rfl rfl rfl rfl (by decide) rfl ?_
     exact dz rfl ⟨u136, B137⟩
    ·
     intro D ρ w140 hcD hnD hdD hW
     obtain ⟨u141, B142⟩ := hW
     have zu141 := u141.size
     have E143 := E110.next u141 (fun i hi (h : i = bk40) => show False by first | omega | assumption)
     have d26 := hcD.late 26 hnD rfl
     have B144 := B142
     simp only [d26, cond_false] at B144
     refine ⟨_, kf_fr [66], fun Lr => ?_⟩
     refine t_load Try.isAgg5 rfl rfl rfl (((hl.keep E143 (fun _ h => h)).at_ k (by omega)) 3 _ rfl) ?_
     exact dz rfl ⟨u141, B142⟩
    ·
     intro D ρ w145 hcD hnD hdD hW
     obtain ⟨u146, B147⟩ := hW
     have zu146 := u146.size
     have d26 := hcD.late 26 hnD rfl
     have B149 := B147
     simp only [d26, cond_false] at B149
     refine ⟨_, kf_fr [67], fun Lr => ?_⟩
     refine t_conv Try.underlying5 Try.underlying3 rfl rfl rfl (IntWalk.i64_in _ (by omega)) ?_
     exact dz rfl ⟨u146, B147⟩
    ·
     intro D ρ w150 hcD hnD hdD hW
     obtain ⟨u151, B152⟩ := hW
     have zu151 := u151.size
     have d26 := hcD.late 26 hnD rfl
     have B154 := B152
     simp only [d26, cond_false] at B154
     refine ⟨_, kf_fr [68], fun Lr => ?_⟩
     refine t_rem rfl rfl rfl rfl (by omega) (by omega) ?_
     exact dz rfl ⟨u151, B152⟩
    ·
     intro D ρ w155 hcD hnD hdD hW
     obtain ⟨u156, B157⟩ := hW
     have zu156 := u156.size
     have d26 := hcD.late 26 hnD rfl
     have B159 := B157
     simp only [d26, cond_false] at B159
     refine ⟨_, kf_fr [62, 69], fun Lr => ?_⟩
     refine t_ari rfl rfl rfl rfl rfl (by omega) ?_
     exact dz rfl ⟨u156, B157⟩
    · exact pzf Try.underlying79 rfl Try.sizeOf3 (0) rfl rfl rfl rfl rfl fun _ _ _ h => h
    ·
     intro D ρ w160 hcD hnD hdD hW
     obtain ⟨u161, B162⟩ := hW
     have zu161 := u161.size
     have d26 := hcD.late 26 hnD rfl
     have B164 := B162
     simp only [d26, cond_false] at B164
     refine ⟨_, kf_fr [71], fun Lr => ?_⟩
     refine t_load Try.isAgg3 rfl rfl rfl (B164.get rfl) ?_
     exact dz rfl ⟨u161, B162⟩
    · exact pz rfl rfl rfl rfl fun _ _ _ h => h
    ·
     intro D ρ w165 hcD hnD hdD hW
     obtain ⟨u166, B167⟩ := hW
     have zu166 := u166.size
     have d26 := hcD.late 26 hnD rfl
     have B169 := B167
     simp only [d26, cond_false] at B169
     refine ⟨_, kf_fr [72, 73], fun Lr => ?_⟩
     refine t_ari rfl rfl rfl rfl rfl (by omega) ?_
     exact dz rfl ⟨u166, B167⟩
    · exact pz rfl rfl rfl rfl fun _ _ _ h => h
    · exact pz rfl rfl rfl rfl fun _ _ _ h => h
    ·
     intro D ρ w170 hcD hnD hdD hW
     obtain ⟨u171, B172⟩ := hW
     have zu171 := u171.size
     have E173 := E110.next u171 (fun i hi (h : i = bk40) => show False by first | omega | assumption)
     have d26 := hcD.late 26 hnD rfl
     have B174 := B172
     simp only [d26, cond_false] at B174
     refine ⟨_, kf_fr [75, 76], fun Lr => ?_⟩
     have i175 : k < xs.length := (by omega)
     refine t_index (j := k) Try.underlying84 Try.sizeOf103 rfl rfl rfl rfl ((hl.keep E173 (fun _ h => h)).addr (by omega)) rfl i175 ?_
     exact dz rfl ⟨u171, B172⟩
    ·
     intro D ρ w176 hcD hnD hdD hW
     obtain ⟨u177, B178⟩ := hW
     have zu177 := u177.size
     have d26 := hcD.late 26 hnD rfl
     have B180 := B178
     simp only [d26, cond_false] at B180
     refine ⟨_, kf_fr [77], fun Lr => ?_⟩
     refine t_indexArr (j := 4) (o + k * 5 + 4) Try.underlying103 Try.sizeOf5 rfl rfl rfl rfl rfl (by decide) rfl ?_
     exact dz rfl ⟨u177, B178⟩
    ·
     intro D ρ w181 hcD hnD hdD hW
     obtain ⟨u182, B183⟩ := hW
     have zu182 := u182.size
     have E184 := E110.next u182 (fun i hi (h : i = bk40) => show False by first | omega | assumption)
     have d26 := hcD.late 26 hnD rfl
     have B185 := B183
     simp only [d26, cond_false] at B185
     refine ⟨_, kf_fr [78], fun Lr => ?_⟩
     refine t_load Try.isAgg5 rfl rfl rfl (((hl.keep E184 (fun _ h => h)).at_ k (by omega)) 4 _ rfl) ?_
     exact dz rfl ⟨u182, B183⟩
    ·
     intro D ρ w186 hcD hnD hdD hW
     obtain ⟨u187, B188⟩ := hW
     have zu187 := u187.size
     have d26 := hcD.late 26 hnD rfl
     have B190 := B188
     simp only [d26, cond_false] at B190
     refine ⟨_, kf_fr [79], fun Lr => ?_⟩
     refine t_conv Try.underlying5 Try.underlying3 rfl rfl rfl (IntWalk.i64_in _ (by omega)) ?_
     exact dz rfl ⟨u187, B188⟩
    ·
     intro D ρ w191 hcD hnD hdD hW
     obtain ⟨u192, B193⟩ := hW
     have zu192 := u192.size
     have d26 := hcD.late 26 hnD rfl
     have B195 := B193
     simp only [d26, cond_false] at B195
     refine ⟨_, kf_fr [80], fun Lr => ?_⟩
     refine t_rem rfl rfl rfl rfl (by omega) (by omega) ?_
     exact dz rfl ⟨u192, B193⟩
    ·
     intro D ρ w196 hcD hnD hdD hW
     obtain ⟨u197, B198⟩ := hW
     have zu197 := u197.size
     have d26 := hcD.late 26 hnD rfl
     have B200 := B198
     simp only [d26, cond_false] at B200
     refine ⟨_, kf_fr [74, 81], fun Lr => ?_⟩
     refine t_ari rfl rfl rfl rfl rfl (by omega) ?_
     exact dz rfl ⟨u197, B198⟩
    · exact fun D ρ w _ _ _ hW => ⟨[(70, .int .i64 (((6000 + (9 * ((nth xs k).a))) - (ls + (((nth xs k).c) % 60))) - (((nth xs k).d) % 40))), (82, .int .i64 (((6000 + (9 * ((nth xs k).a))) - (ls + (((nth xs k).c) % 60))) + (((nth xs k).e) % 40)))], ⟨fi 11 rfl rfl rfl, fi 23 rfl rfl rfl, trivial⟩, fun Lr => t_build (ps := [(0, .int .i64 (((6000 + (9 * ((nth xs k).a))) - (ls + (((nth xs k).c) % 60))) - (((nth xs k).d) % 40))), (1, .int .i64 (((6000 + (9 * ((nth xs k).a))) - (ls + (((nth xs k).c) % 60))) + (((nth xs k).e) % 40)))]) (v := .agg #[.int .i64 (((6000 + (9 * ((nth xs k).a))) - (ls + (((nth xs k).c) % 60))) - (((nth xs k).d) % 40)), .int .i64 (((6000 + (9 * ((nth xs k).a))) - (ls + (((nth xs k).c) % 60))) + (((nth xs k).e) % 40))]) rfl rfl ⟨rfl, rfl⟩ (fun w => by kernel_rfl) (dz rfl hW)⟩
    · exact pzf Try.underlying79 rfl Try.sizeOf77 (1) rfl rfl rfl rfl rfl fun _ _ _ h => h
    ·
     intro D ρ w201 hcD hnD hdD hW
     obtain ⟨u202, B203⟩ := hW
     have zu202 := u202.size
     have B205 := B203
     simp only [hnD, cond_false] at B205
     refine ⟨_, kf_fr [83, 84], fun Lr => ?_⟩
     refine t_store (vs := [.int .i64 (((6000 + (9 * ((nth xs k).a))) - (ls + (((nth xs k).c) % 60))) - (((nth xs k).d) % 40)), .int .i64 (((6000 + (9 * ((nth xs k).a))) - (ls + (((nth xs k).c) % 60))) + (((nth xs k).e) % 40))]) Try.sizeOf77 rfl rfl rfl B205 rfl rfl (Nat.le_of_ble_eq_true rfl) (by simp [Value.oneCell']) (fun w206 sw206 B208 u207 => ?_)
     have zu207 := u207.size
     have B208 : Blk w206 bk40 79 [.int .i64 (6000 + (9 * ((nth xs k).a))), .int .i64 (((6000 + (9 * ((nth xs k).a))) - (ls + (((nth xs k).c) % 60))) - (((nth xs k).d) % 40)), .int .i64 (((6000 + (9 * ((nth xs k).a))) - (ls + (((nth xs k).c) % 60))) + (((nth xs k).e) % 40)), .bool (decide ((((nth xs k).b) % 3) = 0))] := B208
     exact dz0 rfl ⟨(u202.next u207 (fun i hi (h : i = bk40) => show i = bk40 by first | omega | assumption)), (by show Blk w206 bk40 79 [.int .i64 (6000 + (9 * ((nth xs k).a))), .int .i64 (((6000 + (9 * ((nth xs k).a))) - (ls + (((nth xs k).c) % 60))) - (((nth xs k).d) % 40)), .int .i64 (((6000 + (9 * ((nth xs k).a))) - (ls + (((nth xs k).c) % 60))) + (((nth xs k).e) % 40)), .bool (decide ((((nth xs k).b) % 3) = 0))]; exact B208)⟩
    intro ρ w210 hW
    obtain ⟨u211, B212⟩ := hW
    have zu211 := u211.size
    have B212 : Blk w210 bk40 79 [.int .i64 (6000 + (9 * ((nth xs k).a))), .int .i64 (((6000 + (9 * ((nth xs k).a))) - (ls + (((nth xs k).c) % 60))) - (((nth xs k).d) % 40)), .int .i64 (((6000 + (9 * ((nth xs k).a))) - (ls + (((nth xs k).c) % 60))) + (((nth xs k).e) % 40)), .bool (decide ((((nth xs k).b) % 3) = 0))] := B212
    refine QK.weak [(0, .slice ao xs.length cap), (3, .slice ao3 us.length c3), (4, .slice ao4 tr.length c4), (5, .int .i64 (ls + (((nth xs k).c) % 60))), (6, .int .i64 (k : Int)), (7, .pointer (some ⟨bk40, 0, none⟩))] ⟨rfl, rfl, rfl, rfl, rfl, rfl, trivial⟩ (hK116 _ _ (c_region (t_move rfl rfl rfl (t_loadN (vs := [.int .i64 (6000 + (9 * ((nth xs k).a))), .int .i64 (((6000 + (9 * ((nth xs k).a))) - (ls + (((nth xs k).c) % 60))) - (((nth xs k).d) % 40)), .int .i64 (((6000 + (9 * ((nth xs k).a))) - (ls + (((nth xs k).c) % 60))) + (((nth xs k).e) % 40)), .bool (decide ((((nth xs k).b) % 3) = 0))]) Try.isAgg79 Try.sizeOf79 rfl rfl rfl (B212.at.sub 0 4) rfl (t_bslice (ps := [(0, .agg #[.int .i64 (6000 + (9 * ((nth xs k).a))), .int .i64 (((6000 + (9 * ((nth xs k).a))) - (ls + (((nth xs k).c) % 60))) - (((nth xs k).d) % 40)), .int .i64 (((6000 + (9 * ((nth xs k).a))) - (ls + (((nth xs k).c) % 60))) + (((nth xs k).e) % 40)), .bool (decide ((((nth xs k).b) % 3) = 0))])]) (cs := [.int .i64 (6000 + (9 * ((nth xs k).a))), .int .i64 (((6000 + (9 * ((nth xs k).a))) - (ls + (((nth xs k).c) % 60))) - (((nth xs k).d) % 40)), .int .i64 (((6000 + (9 * ((nth xs k).a))) - (ls + (((nth xs k).c) % 60))) + (((nth xs k).e) % 40)), .bool (decide ((((nth xs k).b) % 3) = 0))]) (e := 79) rfl rfl ⟨rfl, rfl⟩ (fun w => by kernel_rfl) (fun bk214 w215 ebk214 sbk214 B216 u217 => ?_))))))
    have zu217 := u217.size
    have D219 := ((((ha3.keep u33 (fun _ h => h)).keep u108 (fun _ h => h)).keep u211 (fun hb => show ¬ (g3 = bk40) by first | omega | assumption)).keep u217 (fun _ h => h))
    refine t_append (z := .agg #[.int .i64 0, .int .i64 0, .int .i64 0, .bool false]) (bytes := 32) (k := 4) (base := bk3) (⟨(6000 + (9 * ((nth xs k).a))), (((6000 + (9 * ((nth xs k).a))) - (ls + (((nth xs k).c) % 60))) - (((nth xs k).d) % 40)), (((6000 + (9 * ((nth xs k).a))) - (ls + (((nth xs k).c) % 60))) + (((nth xs k).e) % 40)), (decide ((((nth xs k).b) % 3) = 0))⟩ : Sur) Try.underlying72 (by kernel_rfl) rfl (by decide) (fun _ => rfl) (by intro x; simp [encSur, Value.oneCell']) rfl rfl rfl rfl D219 B216 (by omega) (by omega) (by decide) (fun ao220 gb221 cp222 w223 A224 u225 gegb221 lngb221 => ?_)
    have zu225 := u225.size
    have lt_gb221 := A224.lt
    refine t_move rfl rfl rfl (t_move rfl rfl rfl (t_bslice (ps := [(0, .int .i64 (ls + (((nth xs k).c) % 60)))]) (cs := [.int .i64 (ls + (((nth xs k).c) % 60))]) (e := 3) rfl rfl ⟨rfl, rfl⟩ (fun w => by kernel_rfl) (fun bk227 w228 ebk227 sbk227 B229 u230 => ?_)))
    have zu230 := u230.size
    have D232 := ((((((ha4.keep u33 (fun _ h => h)).keep u108 (fun _ h => h)).keep u211 (fun hb => show ¬ (g4 = bk40) by first | omega | assumption)).keep u217 (fun _ h => h)).keep u225 (fun hb => show ¬ ((g4 = g3 ∧ bk3 ≤ g4)) by first | omega | assumption)).keep u230 (fun _ h => h))
    refine t_append (z := .int .i64 0) (bytes := 8) (k := 1) (base := bk8) (ls + (((nth xs k).c) % 60)) Try.underlying45 (by kernel_rfl) rfl (by decide) (fun _ => rfl) (by intro x; simp [encI, Value.oneCell']) rfl rfl rfl rfl D232 B229 (by omega) (by omega) (by decide) (fun ao233 gb234 cp235 w236 A237 u238 gegb234 lngb234 => ?_)
    have zu238 := u238.size
    have lt_gb234 := A237.lt
    refine t_assign rfl rfl rfl (t_assign rfl rfl rfl (t_nil' (hK36 _ _ (c_region (t_move rfl rfl rfl (t_ari rfl rfl rfl rfl rfl (by omega) (t_assign rfl rfl rfl (t_nil' ?_))))))))
    have D240 := ((A224.keep u230 (fun _ h => h)).keep u238 (fun hb => show ¬ ((gb221 = g4 ∧ bk8 ≤ gb221)) by first | omega | assumption))
    exact hK16 (k + 1, (ls + (((nth xs k).c) % 60)), ao220, gb221, cp222, (us ++ [(⟨(6000 + (9 * ((nth xs k).a))), (((6000 + (9 * ((nth xs k).a))) - (ls + (((nth xs k).c) % 60))) - (((nth xs k).d) % 40)), (((6000 + (9 * ((nth xs k).a))) - (ls + (((nth xs k).c) % 60))) + (((nth xs k).e) % 40)), (decide ((((nth xs k).b) % 3) = 0))⟩ : Sur)]), ao233, gb234, cp235, (tr ++ [(ls + (((nth xs k).c) % 60))])) _ _ (by show xs.length - (k + 1) < xs.length - k; omega) ⟨rfl, rfl, rfl, rfl, rfl, trivial⟩ ⟨(((((((u18.next u33 (fun _ _ h => h.elim)).next u108 (fun _ _ h => h.elim)).next u211 (fun i hi (h : i = bk40) => show i = bk3 ∨ i = bk8 by first | omega | assumption)).next u217 (fun _ _ h => h.elim)).next u225 (fun i hi (h : (i = g3 ∧ bk3 ≤ i)) => show i = bk3 ∨ i = bk8 by first | omega | assumption)).next u230 (fun _ _ h => h.elim)).next u238 (fun i hi (h : (i = g4 ∧ bk8 ≤ i)) => show i = bk3 ∨ i = bk8 by first | omega | assumption)), (by omega), (by omega), (by rw [List.length_append, List.length_singleton]; omega), (hT.snoc (⟨(6000 + (9 * ((nth xs k).a))), (((6000 + (9 * ((nth xs k).a))) - (ls + (((nth xs k).c) % 60))) - (((nth xs k).d) % 40)), (((6000 + (9 * ((nth xs k).a))) - (ls + (((nth xs k).c) % 60))) + (((nth xs k).e) % 40)), (decide ((((nth xs k).b) % 3) = 0))⟩ : Sur) (ls + (((nth xs k).c) % 60)) (by omega) (fun h => absurd (of_decide_eq_true h) g49) (by simp only [okSur, decide_eq_true_eq]; omega) (by dsimp only; omega) (by dsimp only; omega)), D240, A237, (by show gb221 = bk3 ∨ _ ≤ gb221; omega), (by show gb234 = bk8 ∨ _ ≤ gb234; omega), (by show gb221 ≠ gb234; omega)⟩
   ·
    refine c_skip (hK113 _ _ (c_seq fun K241 hK241 => (WC.weak [(0, .slice ao xs.length cap), (3, .slice ao3 us.length c3), (4, .slice ao4 tr.length c4), (5, .int .i64 ls), (6, .int .i64 (k : Int)), (7, .pointer (some ⟨bk40, 0, none⟩))] ⟨rfl, rfl, rfl, rfl, rfl, rfl, trivial⟩ (c_drawn follows 27 [some (59, some (.pointer (some ⟨bk40, 0, none⟩))), some (60, some (.int .i64 (6000 + (9 * ((nth xs k).a))))), some (61, some (.int .i64 ls)), some (62, some (.int .i64 ((6000 + (9 * ((nth xs k).a))) - ls))), some (63, some (.slice ao xs.length cap)), some (64, some (.int .i64 (k : Int))), some (65, some (.pointer (some ⟨b, o + k * 5, none⟩))), some (66, some (.pointer (some ⟨b, o + k * 5 + 3, none⟩))), some (67, some (.int .u8 ((nth xs k).d))), some (68, some (.int .i64 ((nth xs k).d))), some (69, some (.int .i64 (((nth xs k).d) % 40))), some (70, some (.int .i64 (((6000 + (9 * ((nth xs k).a))) - ls) - (((nth xs k).d) % 40)))), some (71, some (.pointer (some ⟨bk40, 0, none⟩))), some (72, some (.int .i64 (6000 + (9 * ((nth xs k).a))))), some (73, some (.int .i64 ls)), some (74, some (.int .i64 ((6000 + (9 * ((nth xs k).a))) - ls))), some (75, some (.slice ao xs.length cap)), some (76, some (.int .i64 (k : Int))), some (77, some (.pointer (some ⟨b, o + k * 5, none⟩))), some (78, some (.pointer (some ⟨b, o + k * 5 + 4, none⟩))), some (79, some (.int .u8 ((nth xs k).e))), some (80, some (.int .i64 ((nth xs k).e))), some (81, some (.int .i64 (((nth xs k).e) % 40))), some (82, some (.int .i64 (((6000 + (9 * ((nth xs k).a))) - ls) + (((nth xs k).e) % 40)))), some (83, some (.agg #[.int .i64 (((6000 + (9 * ((nth xs k).a))) - ls) - (((nth xs k).d) % 40)), .int .i64 (((6000 + (9 * ((nth xs k).a))) - ls) + (((nth xs k).e) % 40))])), some (84, some (.pointer (some ⟨bk40, 1, none⟩))), none] [[],[0],[],[1,2],[],[],[4,5],[6],[7],[8],[9],[3,10],[],[12],[],[13,14],[],[],[16,17],[18],[19],[20],[21],[15,22],[11,23],[0,1,2,3,4,5,6,7,8,9,10,11,12,13,14,15,16,17,18,19,20,21,22,23,24],[25,24,0,1,2,3,4,5,6,7,8,9,10,11,12,13,14,15,16,17,18,19,20,21,22,23,24]] (fun D _ w => Upd (fun i => i = bk40) w107 w ∧ Blk w bk40 79 [.int .i64 (6000 + (9 * ((nth xs k).a))), (bif D 26 then .int .i64 (((6000 + (9 * ((nth xs k).a))) - ls) - (((nth xs k).d) % 40)) else .int .i64 0), (bif D 26 then .int .i64 (((6000 + (9 * ((nth xs k).a))) - ls) + (((nth xs k).e) % 40)) else .int .i64 0), .bool (decide ((((nth xs k).b) % 3) = 0))]) rfl rfl rfl (by kernel_rfl) (by kernel_rfl) ⟨(Upd.drew _).to, (B112.keep (Upd.drew _) (fun h => h))⟩ ⟨?_, ?_, ?_, ?_, ?_, ?_, ?_, ?_, ?_, ?_, ?_, ?_, ?_, ?_, ?_, ?_, ?_, ?_, ?_, ?_, ?_, ?_, ?_, ?_, ?_, ?_, ?_, trivial⟩ ?_))))
    · exact pzf Try.underlying79 rfl Try.sizeOf3 (0) rfl rfl rfl rfl rfl fun _ _ _ h => h
    ·
     intro D ρ w244 hcD hnD hdD hW
     obtain ⟨u245, B246⟩ := hW
     have zu245 := u245.size
     have d26 := hcD.late 26 hnD rfl
     have B248 := B246
     simp only [d26, cond_false] at B248
     refine ⟨_, kf_fr [59], fun Lr => ?_⟩
     refine t_load Try.isAgg3 rfl rfl rfl (B248.get rfl) ?_
     exact dz rfl ⟨u245, B246⟩
    · exact pz rfl rfl rfl rfl fun _ _ _ h => h
    ·
     intro D ρ w249 hcD hnD hdD hW
     obtain ⟨u250, B251⟩ := hW
     have zu250 := u250.size
     have d26 := hcD.late 26 hnD rfl
     have B253 := B251
     simp only [d26, cond_false] at B253
     refine ⟨_, kf_fr [60, 61], fun Lr => ?_⟩
     refine t_ari rfl rfl rfl rfl rfl (by omega) ?_
     exact dz rfl ⟨u250, B251⟩
    · exact pz rfl rfl rfl rfl fun _ _ _ h => h
    · exact pz rfl rfl rfl rfl fun _ _ _ h => h
    ·
     intro D ρ w254 hcD hnD hdD hW
     obtain ⟨u255, B256⟩ := hW
     have zu255 := u255.size
     have E257 := E110.next u255 (fun i hi (h : i = bk40) => show False by first | omega | assumption)
     have d26 := hcD.late 26 hnD rfl
     have B258 := B256
     simp only [d26, cond_false] at B258
     refine ⟨_, kf_fr [63, 64], fun Lr => ?_⟩
     have i259 : k < xs.length := (by omega)
     refine t_index (j := k) Try.underlying84 Try.sizeOf103 rfl rfl rfl rfl ((hl.keep E257 (fun _ h => h)).addr (by omega)) rfl i259 ?_
     exact dz rfl ⟨u255, B256⟩
    ·
     intro D ρ w260 hcD hnD hdD hW
     obtain ⟨u261, B262⟩ := hW
     have zu261 := u261.size
     have d26 := hcD.late 26 hnD rfl
     have B264 := B262
     simp only [d26, cond_false] at B264
     refine ⟨_, kf_fr [65], fun Lr => ?_⟩
     refine t_indexArr (j := 3) (o + k * 5 + 3) Try.underlying103 Try.sizeOf5 rfl rfl rfl rfl rfl (by decide) rfl ?_
     exact dz rfl ⟨u261, B262⟩
    ·
     intro D ρ w265 hcD hnD hdD hW
     obtain ⟨u266, B267⟩ := hW
     have zu266 := u266.size
     have E268 := E110.next u266 (fun i hi (h : i = bk40) => show False by first | omega | assumption)
     have d26 := hcD.late 26 hnD rfl
     have B269 := B267
     simp only [d26, cond_false] at B269
     refine ⟨_, kf_fr [66], fun Lr => ?_⟩
     refine t_load Try.isAgg5 rfl rfl rfl (((hl.keep E268 (fun _ h => h)).at_ k (by omega)) 3 _ rfl) ?_
     exact dz rfl ⟨u266, B267⟩
    ·
     intro D ρ w270 hcD hnD hdD hW
     obtain ⟨u271, B272⟩ := hW
     have zu271 := u271.size
     have d26 := hcD.late 26 hnD rfl
     have B274 := B272
     simp only [d26, cond_false] at B274
     refine ⟨_, kf_fr [67], fun Lr => ?_⟩
     refine t_conv Try.underlying5 Try.underlying3 rfl rfl rfl (IntWalk.i64_in _ (by omega)) ?_
     exact dz rfl ⟨u271, B272⟩
    ·
     intro D ρ w275 hcD hnD hdD hW
     obtain ⟨u276, B277⟩ := hW
     have zu276 := u276.size
     have d26 := hcD.late 26 hnD rfl
     have B279 := B277
     simp only [d26, cond_false] at B279
     refine ⟨_, kf_fr [68], fun Lr => ?_⟩
     refine t_rem rfl rfl rfl rfl (by omega) (by omega) ?_
     exact dz rfl ⟨u276, B277⟩
    ·
     intro D ρ w280 hcD hnD hdD hW
     obtain ⟨u281, B282⟩ := hW
     have zu281 := u281.size
     have d26 := hcD.late 26 hnD rfl
     have B284 := B282
     simp only [d26, cond_false] at B284
     refine ⟨_, kf_fr [62, 69], fun Lr => ?_⟩
     refine t_ari rfl rfl rfl rfl rfl (by omega) ?_
     exact dz rfl ⟨u281, B282⟩
    · exact pzf Try.underlying79 rfl Try.sizeOf3 (0) rfl rfl rfl rfl rfl fun _ _ _ h => h
    ·
     intro D ρ w285 hcD hnD hdD hW
     obtain ⟨u286, B287⟩ := hW
     have zu286 := u286.size
     have d26 := hcD.late 26 hnD rfl
     have B289 := B287
     simp only [d26, cond_false] at B289
     refine ⟨_, kf_fr [71], fun Lr => ?_⟩
     refine t_load Try.isAgg3 rfl rfl rfl (B289.get rfl) ?_
     exact dz rfl ⟨u286, B287⟩
    · exact pz rfl rfl rfl rfl fun _ _ _ h => h
    ·
     intro D ρ w290 hcD hnD hdD hW
     obtain ⟨u291, B292⟩ := hW
     have zu291 := u291.size
     have d26 := hcD.late 26 hnD rfl
     have B294 := B292
     simp only [d26, cond_false] at B294
     refine ⟨_, kf_fr [72, 73], fun Lr => ?_⟩
     refine t_ari rfl rfl rfl rfl rfl (by omega) ?_
     exact dz rfl ⟨u291, B292⟩
    · exact pz rfl rfl rfl rfl fun _ _ _ h => h
    · exact pz rfl rfl rfl rfl fun _ _ _ h => h
    ·
     intro D ρ w295 hcD hnD hdD hW
     obtain ⟨u296, B297⟩ := hW
     have zu296 := u296.size
     have E298 := E110.next u296 (fun i hi (h : i = bk40) => show False by first | omega | assumption)
     have d26 := hcD.late 26 hnD rfl
     have B299 := B297
     simp only [d26, cond_false] at B299
     refine ⟨_, kf_fr [75, 76], fun Lr => ?_⟩
     have i300 : k < xs.length := (by omega)
     refine t_index (j := k) Try.underlying84 Try.sizeOf103 rfl rfl rfl rfl ((hl.keep E298 (fun _ h => h)).addr (by omega)) rfl i300 ?_
     exact dz rfl ⟨u296, B297⟩
    ·
     intro D ρ w301 hcD hnD hdD hW
     obtain ⟨u302, B303⟩ := hW
     have zu302 := u302.size
     have d26 := hcD.late 26 hnD rfl
     have B305 := B303
     simp only [d26, cond_false] at B305
     refine ⟨_, kf_fr [77], fun Lr => ?_⟩
     refine t_indexArr (j := 4) (o + k * 5 + 4) Try.underlying103 Try.sizeOf5 rfl rfl rfl rfl rfl (by decide) rfl ?_
     exact dz rfl ⟨u302, B303⟩
    ·
     intro D ρ w306 hcD hnD hdD hW
     obtain ⟨u307, B308⟩ := hW
     have zu307 := u307.size
     have E309 := E110.next u307 (fun i hi (h : i = bk40) => show False by first | omega | assumption)
     have d26 := hcD.late 26 hnD rfl
     have B310 := B308
     simp only [d26, cond_false] at B310
     refine ⟨_, kf_fr [78], fun Lr => ?_⟩
     refine t_load Try.isAgg5 rfl rfl rfl (((hl.keep E309 (fun _ h => h)).at_ k (by omega)) 4 _ rfl) ?_
     exact dz rfl ⟨u307, B308⟩
    ·
     intro D ρ w311 hcD hnD hdD hW
     obtain ⟨u312, B313⟩ := hW
     have zu312 := u312.size
     have d26 := hcD.late 26 hnD rfl
     have B315 := B313
     simp only [d26, cond_false] at B315
     refine ⟨_, kf_fr [79], fun Lr => ?_⟩
     refine t_conv Try.underlying5 Try.underlying3 rfl rfl rfl (IntWalk.i64_in _ (by omega)) ?_
     exact dz rfl ⟨u312, B313⟩
    ·
     intro D ρ w316 hcD hnD hdD hW
     obtain ⟨u317, B318⟩ := hW
     have zu317 := u317.size
     have d26 := hcD.late 26 hnD rfl
     have B320 := B318
     simp only [d26, cond_false] at B320
     refine ⟨_, kf_fr [80], fun Lr => ?_⟩
     refine t_rem rfl rfl rfl rfl (by omega) (by omega) ?_
     exact dz rfl ⟨u317, B318⟩
    ·
     intro D ρ w321 hcD hnD hdD hW
     obtain ⟨u322, B323⟩ := hW
     have zu322 := u322.size
     have d26 := hcD.late 26 hnD rfl
     have B325 := B323
     simp only [d26, cond_false] at B325
     refine ⟨_, kf_fr [74, 81], fun Lr => ?_⟩
     refine t_ari rfl rfl rfl rfl rfl (by omega) ?_
     exact dz rfl ⟨u322, B323⟩
    · exact fun D ρ w _ _ _ hW => ⟨[(70, .int .i64 (((6000 + (9 * ((nth xs k).a))) - ls) - (((nth xs k).d) % 40))), (82, .int .i64 (((6000 + (9 * ((nth xs k).a))) - ls) + (((nth xs k).e) % 40)))], ⟨fi 11 rfl rfl rfl, fi 23 rfl rfl rfl, trivial⟩, fun Lr => t_build (ps := [(0, .int .i64 (((6000 + (9 * ((nth xs k).a))) - ls) - (((nth xs k).d) % 40))), (1, .int .i64 (((6000 + (9 * ((nth xs k).a))) - ls) + (((nth xs k).e) % 40)))]) (v := .agg #[.int .i64 (((6000 + (9 * ((nth xs k).a))) - ls) - (((nth xs k).d) % 40)), .int .i64 (((6000 + (9 * ((nth xs k).a))) - ls) + (((nth xs k).e) % 40))]) rfl rfl ⟨rfl, rfl⟩ (fun w => by kernel_rfl) (dz rfl hW)⟩
    · exact pzf Try.underlying79 rfl Try.sizeOf77 (1) rfl rfl rfl rfl rfl fun _ _ _ h => h
    ·
     intro D ρ w326 hcD hnD hdD hW
     obtain ⟨u327, B328⟩ := hW
     have zu327 := u327.size
     have B330 := B328
     simp only [hnD, cond_false] at B330
     refine ⟨_, kf_fr [83, 84], fun Lr => ?_⟩
     refine t_store (vs := [.int .i64 (((6000 + (9 * ((nth xs k).a))) - ls) - (((nth xs k).d) % 40)), .int .i64 (((6000 + (9 * ((nth xs k).a))) - ls) + (((nth xs k).e) % 40))]) Try.sizeOf77 rfl rfl rfl B330 rfl rfl (Nat.le_of_ble_eq_true rfl) (by simp [Value.oneCell']) (fun w331 sw331 B333 u332 => ?_)
     have zu332 := u332.size
     have B333 : Blk w331 bk40 79 [.int .i64 (6000 + (9 * ((nth xs k).a))), .int .i64 (((6000 + (9 * ((nth xs k).a))) - ls) - (((nth xs k).d) % 40)), .int .i64 (((6000 + (9 * ((nth xs k).a))) - ls) + (((nth xs k).e) % 40)), .bool (decide ((((nth xs k).b) % 3) = 0))] := B333
     exact dz0 rfl ⟨(u327.next u332 (fun i hi (h : i = bk40) => show i = bk40 by first | omega | assumption)), (by show Blk w331 bk40 79 [.int .i64 (6000 + (9 * ((nth xs k).a))), .int .i64 (((6000 + (9 * ((nth xs k).a))) - ls) - (((nth xs k).d) % 40)), .int .i64 (((6000 + (9 * ((nth xs k).a))) - ls) + (((nth xs k).e) % 40)), .bool (decide ((((nth xs k).b) % 3) = 0))]; exact B333)⟩
    intro ρ w335 hW
    obtain ⟨u336, B337⟩ := hW
    have zu336 := u336.size
    have B337 : Blk w335 bk40 79 [.int .i64 (6000 + (9 * ((nth xs k).a))), .int .i64 (((6000 + (9 * ((nth xs k).a))) - ls) - (((nth xs k).d) % 40)), .int .i64 (((6000 + (9 * ((nth xs k).a))) - ls) + (((nth xs k).e) % 40)), .bool (decide ((((nth xs k).b) % 3) = 0))] := B337
    refine QK.weak [(0, .slice ao xs.length cap), (3, .slice ao3 us.length c3), (4, .slice ao4 tr.length c4), (5, .int .i64 ls), (6, .int .i64 (k : Int)), (7, .pointer (some ⟨bk40, 0, none⟩))] ⟨rfl, rfl, rfl, rfl, rfl, rfl, trivial⟩ (hK241 _ _ (c_region (t_move rfl rfl rfl (t_loadN (vs := [.int .i64 (6000 + (9 * ((nth xs k).a))), .int .i64 (((6000 + (9 * ((nth xs k).a))) - ls) - (((nth xs k).d) % 40)), .int .i64 (((6000 + (9 * ((nth xs k).a))) - ls) + (((nth xs k).e) % 40)), .bool (decide ((((nth xs k).b) % 3) = 0))]) Try.isAgg79 Try.sizeOf79 rfl rfl rfl (B337.at.sub 0 4) rfl (t_bslice (ps := [(0, .agg #[.int .i64 (6000 + (9 * ((nth xs k).a))), .int .i64 (((6000 + (9 * ((nth xs k).a))) - ls) - (((nth xs k).d) % 40)), .int .i64 (((6000 + (9 * ((nth xs k).a))) - ls) + (((nth xs k).e) % 40)), .bool (decide ((((nth xs k).b) % 3) = 0))])]) (cs := [.int .i64 (6000 + (9 * ((nth xs k).a))), .int .i64 (((6000 + (9 * ((nth xs k).a))) - ls) - (((nth xs k).d) % 40)), .int .i64 (((6000 + (9 * ((nth xs k).a))) - ls) + (((nth xs k).e) % 40)), .bool (decide ((((nth xs k).b) % 3) = 0))]) (e := 79) rfl rfl ⟨rfl, rfl⟩ (fun w => by kernel_rfl) (fun bk339 w340 ebk339 sbk339 B341 u342 => ?_))))))
    have zu342 := u342.size
    have D344 := ((((ha3.keep u33 (fun _ h => h)).keep u108 (fun _ h => h)).keep u336 (fun hb => show ¬ (g3 = bk40) by first | omega | assumption)).keep u342 (fun _ h => h))
    refine t_append (z := .agg #[.int .i64 0, .int .i64 0, .int .i64 0, .bool false]) (bytes := 32) (k := 4) (base := bk3) (⟨(6000 + (9 * ((nth xs k).a))), (((6000 + (9 * ((nth xs k).a))) - ls) - (((nth xs k).d) % 40)), (((6000 + (9 * ((nth xs k).a))) - ls) + (((nth xs k).e) % 40)), (decide ((((nth xs k).b) % 3) = 0))⟩ : Sur) Try.underlying72 (by kernel_rfl) rfl (by decide) (fun _ => rfl) (by intro x; simp [encSur, Value.oneCell']) rfl rfl rfl rfl D344 B341 (by omega) (by omega) (by decide) (fun ao345 gb346 cp347 w348 A349 u350 gegb346 lngb346 => ?_)
    have zu350 := u350.size
    have lt_gb346 := A349.lt
    refine t_move rfl rfl rfl (t_move rfl rfl rfl (t_bslice (ps := [(0, .int .i64 ls)]) (cs := [.int .i64 ls]) (e := 3) rfl rfl ⟨rfl, rfl⟩ (fun w => by kernel_rfl) (fun bk352 w353 ebk352 sbk352 B354 u355 => ?_)))
    have zu355 := u355.size
    have D357 := ((((((ha4.keep u33 (fun _ h => h)).keep u108 (fun _ h => h)).keep u336 (fun hb => show ¬ (g4 = bk40) by first | omega | assumption)).keep u342 (fun _ h => h)).keep u350 (fun hb => show ¬ ((g4 = g3 ∧ bk3 ≤ g4)) by first | omega | assumption)).keep u355 (fun _ h => h))
    refine t_append (z := .int .i64 0) (bytes := 8) (k := 1) (base := bk8) ls Try.underlying45 (by kernel_rfl) rfl (by decide) (fun _ => rfl) (by intro x; simp [encI, Value.oneCell']) rfl rfl rfl rfl D357 B354 (by omega) (by omega) (by decide) (fun ao358 gb359 cp360 w361 A362 u363 gegb359 lngb359 => ?_)
    have zu363 := u363.size
    have lt_gb359 := A362.lt
    refine t_assign rfl rfl rfl (t_assign rfl rfl rfl (t_nil' (hK36 _ _ (c_region (t_move rfl rfl rfl (t_ari rfl rfl rfl rfl rfl (by omega) (t_assign rfl rfl rfl (t_nil' ?_))))))))
    have D365 := ((A349.keep u355 (fun _ h => h)).keep u363 (fun hb => show ¬ ((gb346 = g4 ∧ bk8 ≤ gb346)) by first | omega | assumption))
    exact hK16 (k + 1, ls, ao345, gb346, cp347, (us ++ [(⟨(6000 + (9 * ((nth xs k).a))), (((6000 + (9 * ((nth xs k).a))) - ls) - (((nth xs k).d) % 40)), (((6000 + (9 * ((nth xs k).a))) - ls) + (((nth xs k).e) % 40)), (decide ((((nth xs k).b) % 3) = 0))⟩ : Sur)]), ao358, gb359, cp360, (tr ++ [ls])) _ _ (by show xs.length - (k + 1) < xs.length - k; omega) ⟨rfl, rfl, rfl, rfl, rfl, trivial⟩ ⟨(((((((u18.next u33 (fun _ _ h => h.elim)).next u108 (fun _ _ h => h.elim)).next u336 (fun i hi (h : i = bk40) => show i = bk3 ∨ i = bk8 by first | omega | assumption)).next u342 (fun _ _ h => h.elim)).next u350 (fun i hi (h : (i = g3 ∧ bk3 ≤ i)) => show i = bk3 ∨ i = bk8 by first | omega | assumption)).next u355 (fun _ _ h => h.elim)).next u363 (fun i hi (h : (i = g4 ∧ bk8 ≤ i)) => show i = bk3 ∨ i = bk8 by first | omega | assumption)), (by omega), (by omega), (by rw [List.length_append, List.length_singleton]; omega), (hT.snoc (⟨(6000 + (9 * ((nth xs k).a))), (((6000 + (9 * ((nth xs k).a))) - ls) - (((nth xs k).d) % 40)), (((6000 + (9 * ((nth xs k).a))) - ls) + (((nth xs k).e) % 40)), (decide ((((nth xs k).b) % 3) = 0))⟩ : Sur) ls (by omega) (fun h => rfl) (by simp only [okSur, decide_eq_true_eq]; omega) (by dsimp only; omega) (by dsimp only; omega)), D365, A362, (by show gb346 = bk3 ∨ _ ≤ gb346; omega), (by show gb359 = bk8 ∨ _ ≤ gb359; omega), (by show gb346 ≠ gb359; omega)⟩
  ·
   clear hq
   refine c_exit (hK13 _ _ (c_seq fun K366 hK366 => (c_region (t_bslice (ps := []) (cs := []) (e := 79) rfl rfl ⟨rfl, rfl⟩ (fun w => by kernel_rfl) (fun bk367 w368 ebk367 sbk367 B369 u370 => ?_)))))
   have zu370 := u370.size
   have E371 := E35.next u370 (fun _ _ h => h.elim)
   refine t_move rfl rfl rfl ?_
   have D372 := ((ha3.keep u33 (fun _ h => h)).keep u370 (fun _ h => h))
   refine t_copy (enc := encSur) (z := .agg #[.int .i64 0, .int .i64 0, .int .i64 0, .bool false]) (bytes := 32) (k := 4) (ys := us) Try.underlying72 (by kernel_rfl) rfl (by decide) (fun _ => rfl) (by intro x; simp [encSur, Value.oneCell']) rfl rfl rfl rfl B369 (D372.sl (fun _ => rfl)) (by omega) (by decide) (fun ao373 gb374 cp375 w376 A377 u378 gegb374 => ?_)
   have zu378 := u378.size
   have E379 := E371.next u378 (fun i hi (h : (i = bk367 ∧ bk367 ≤ i)) => show False by first | omega | assumption)
   have lt_gb374 := A377.lt
   refine t_call (vs := [.slice ao373 us.length cp375]) own28 rfl rfl rfl rfl (LossesT_c us tr ls us.length us.length rfl (by omega) hT ao373 gb374 0 cp375 _ (by rw [List.take_length]; exact (A377.sl (fun _ => rfl))) (by omega)) (fun v380 w381 r383 => ?_)
   obtain ⟨⟨gM, M, rfl, hsM, hlM, hrM⟩, u382⟩ := r383
   have zu382 := u382.size
   have E384 := E379.next u382 (fun _ _ h => h.elim)
   have hB := hT.bounds (Nat.le_refl _) hrM
   refine t_move rfl rfl rfl (t_extract (vs := [.slice (some ⟨gM, 0, none⟩) us.length us.length, .int .i64 0, .int .i64 0]) rfl rfl rfl rfl (t_extract (vs := [.slice (some ⟨gM, 0, none⟩) us.length us.length, .int .i64 0, .int .i64 0]) rfl rfl rfl rfl (t_extract (vs := [.slice (some ⟨gM, 0, none⟩) us.length us.length, .int .i64 0, .int .i64 0]) rfl rfl rfl rfl (t_assign rfl rfl rfl (t_assign rfl rfl rfl (t_assign rfl rfl rfl (t_nil' (hK366 _ _ (c_seq fun K385 hK385 => (c_seq fun K386 hK386 => (c_region (t_move rfl rfl rfl (t_cmp rfl rfl rfl rfl rfl (t_samehd (v := .bool false) rfl (t_move rfl rfl rfl (t_move rfl rfl rfl (t_cmp rfl rfl rfl rfl rfl (t_samehd (v := .bool false) rfl (t_pick_f rfl rfl rfl rfl (t_move rfl rfl rfl (t_move rfl rfl rfl (t_len Try.underlying73 rfl rfl rfl rfl (t_move rfl rfl rfl ?_)))))))))))))))))))))))
   refine t_len Try.underlying72 rfl rfl rfl rfl (t_cmp rfl rfl rfl rfl rfl (t_samehd (v := .bool false) (by simp) (t_pick_f rfl rfl rfl rfl (t_nil' (hK386 _ _ (c_cond_f rfl (c_skip (hK385 _ _ (c_seq fun K387 hK387 => (c_seq fun K388 hK388 => (c_region (t_assign rfl rfl rfl (t_nil' (hK388 _ _ (c_block (c_loop (γ := Nat) (fun k2 => [(3, .slice ao3 us.length c3), (4, .slice ao4 tr.length c4), (8, .slice (some ⟨gM, 0, none⟩) us.length us.length), (11, .int .i64 (k2 : Int))]) (fun k2 w => Upd (fun _ => False) w381 w ∧ (k2 ≤ us.length)) (fun k2 => us.length - k2) 0 ⟨rfl, rfl, rfl, rfl, trivial⟩ ⟨Upd.refl _ _, (Nat.zero_le _)⟩ ?_))))))))))))))))
   intro k2 w390 hW K389 hK389
   obtain ⟨u391, I392⟩ := hW
   have zu391 := u391.size
   have E393 := E384.next u391 (fun _ _ h => h.elim)
   have hk2 := I392; clear I392
   refine c_seq fun K394 hK394 => (c_seq fun K395 hK395 => (c_region (t_move rfl rfl rfl (t_move rfl rfl rfl (t_len Try.underlying73 rfl rfl rfl rfl (t_cmp rfl rfl rfl rfl rfl (t_nil' (hK395 _ _ (c_condp rfl (fun g117 => ?_) (fun g117 => ?_))))))))))
   ·
    have hB1 := hB.tru k2 (by omega)
    have hB2 := hB.pos k2 (by omega)
    have hB3 := hB.up k2 (by omega)
    have hB4 := hB.fit k2 (by omega)
    have hB5 := hB.slt k2 (by omega)
    have hB6 := hT.sur k2 (by omega)
    simp only [okSur, decide_eq_true_eq] at hB6
    have g130 : ¬ (nth tr k2) < (nth M k2).lo := by omega
    have g142 : ¬ (nth M k2).hi < (nth tr k2) := by omega
    have g150 : ¬ (nth M k2).lo < 0 := by omega
    refine c_skip (hK394 _ _ (c_seq fun K396 hK396 => (c_block (c_seq fun K397 hK397 => (c_cut (γ := Bool) (fun q2 => [(3, .slice ao3 us.length c3), (4, .slice ao4 tr.length c4), (8, .slice (some ⟨gM, 0, none⟩) us.length us.length), (11, .int .i64 (k2 : Int)), (181, .bool q2)]) (fun q2 w => Upd (fun _ => False) w390 w ∧ (q2 = false)) (fun K399 hK399 => ?_) ?_)))))
    ·
     by_cases g153 : 0 < (k2 : Int)
     ·
      have hup := hB3 (by omega)
      have g166 : ¬ (nth M k2).lo < (nth M (k2 - 1)).lo := by omega
      refine WC.weak [(3, .slice ao3 us.length c3), (4, .slice ao4 tr.length c4), (8, .slice (some ⟨gM, 0, none⟩) us.length us.length), (11, .int .i64 (k2 : Int))] ⟨rfl, rfl, rfl, rfl, trivial⟩ (c_drawn follows 62 [some (120, some (.slice ao4 tr.length c4)), some (121, some (.int .i64 (k2 : Int))), some (122, some (.pointer (some ⟨g4, 0 + k2 * 1, none⟩))), some (123, some (.int .i64 (nth tr k2))), some (124, some (.slice (some ⟨gM, 0, none⟩) us.length us.length)), some (125, some (.int .i64 (k2 : Int))), some (126, some (.pointer (some ⟨gM, 0 + k2 * 2, none⟩))), some (127, some (.pointer (some ⟨gM, 0 + k2 * 2 + 0, none⟩))), some (128, some (.int .i64 ((nth M k2).lo))), some (129, some (.bool (decide ((nth tr k2) < (nth M k2).lo)))), some (130, some (.bool false)), some (131, some (.slice ao4 tr.length c4)), some (132, some (.int .i64 (k2 : Int))), some (133, some (.pointer (some ⟨g4, 0 + k2 * 1, none⟩))), some (134, some (.int .i64 (nth tr k2))), some (135, some (.slice (some ⟨gM, 0, none⟩) us.length us.length)), some (136, some (.int .i64 (k2 : Int))), some (137, some (.pointer (some ⟨gM, 0 + k2 * 2, none⟩))), some (138, some (.pointer (some ⟨gM, 0 + k2 * 2 + 1, none⟩))), some (139, some (.int .i64 ((nth M k2).hi))), some (140, some (.bool (decide ((nth M k2).hi < (nth tr k2))))), some (141, some (.bool (decide ((nth M k2).hi < (nth tr k2))))), some (142, some (.bool false)), some (143, some (.slice (some ⟨gM, 0, none⟩) us.length us.length)), some (144, some (.int .i64 (k2 : Int))), some (145, some (.pointer (some ⟨gM, 0 + k2 * 2, none⟩))), some (146, some (.pointer (some ⟨gM, 0 + k2 * 2 + 0, none⟩))), some (147, some (.int .i64 ((nth M k2).lo))), some (148, some (.bool (decide ((nth M k2).lo < 0)))), some (149, some (.bool (decide ((nth M k2).lo < 0)))), some (150, some (.bool false)), some (151, some (.int .i64 (k2 : Int))), some (152, some (.bool (decide (0 < (k2 : Int))))), some (153, some (.bool true)), some (154, some (.slice (some ⟨gM, 0, none⟩) us.length us.length)), some (155, some (.int .i64 (k2 : Int))), some (156, some (.pointer (some ⟨gM, 0 + k2 * 2, none⟩))), some (157, some (.pointer (some ⟨gM, 0 + k2 * 2 + 0, none⟩))), some (158, some (.int .i64 ((nth M k2).lo))), some (159, some (.slice (some ⟨gM, 0, none⟩) us.length us.length)), some (160, some (.int .i64 (k2 : Int))), some (161, some (.int .i64 ((k2 : Int) - 1))), some (162, some (.pointer (some ⟨gM, 0 + (k2 - 1) * 2, none⟩))), some (163, some (.pointer (some ⟨gM, 0 + (k2 - 1) * 2 + 0, none⟩))), some (164, some (.int .i64 ((nth M (k2 - 1)).lo))), some (165, some (.bool (decide ((nth M k2).lo < (nth M (k2 - 1)).lo)))), some (166, some (.bool false)), some (167, some (.slice (some ⟨gM, 0, none⟩) us.length us.length)), some (168, some (.int .i64 (k2 : Int))), some (169, some (.pointer (some ⟨gM, 0 + k2 * 2, none⟩))), some (170, some (.pointer (some ⟨gM, 0 + k2 * 2 + 1, none⟩))), some (171, some (.int .i64 ((nth M k2).hi))), some (172, some (.slice (some ⟨gM, 0, none⟩) us.length us.length)), some (173, some (.int .i64 (k2 : Int))), some (174, some (.int .i64 ((k2 : Int) - 1))), some (175, some (.pointer (some ⟨gM, 0 + (k2 - 1) * 2, none⟩))), some (176, some (.pointer (some ⟨gM, 0 + (k2 - 1) * 2 + 1, none⟩))), some (177, some (.int .i64 ((nth M (k2 - 1)).hi))), some (178, some (.bool (decide ((nth M k2).hi < (nth M (k2 - 1)).hi)))), some (179, some (.bool (decide ((nth M k2).hi < (nth M (k2 - 1)).hi)))), some (180, some (.bool (decide ((nth M k2).hi < (nth M (k2 - 1)).hi)))), some (181, some (.bool (decide ((nth M k2).hi < (nth M (k2 - 1)).hi))))] [[],[],[0,1],[2],[],[],[4,5],[6],[7],[3,8],[9],[10],[10],[11,12,10],[13,10],[10],[10],[15,16,10],[17,10],[18,10],[14,19,10],[10,20],[21,10],[22],[22],[23,24,22],[25,22],[26,22],[27,22],[22,28],[29,22],[30],[31,30],[32,30,30],[33],[33],[34,35,33],[36,33],[37,33],[33],[33],[40,33],[39,41,33],[42,33],[43,33],[38,44,33],[45,33,33],[46],[46],[47,48,46],[49,46],[50,46],[46],[46],[53,46],[52,54,46],[55,46],[56,46],[51,57,46],[46,58,33],[33,59,30],[30,60]] (fun _ _ w => Upd (fun _ => False) w390 w) rfl rfl rfl (by kernel_rfl) (by kernel_rfl) (Upd.drew _).to ⟨?_, ?_, ?_, ?_, ?_, ?_, ?_, ?_, ?_, ?_, ?_, ?_, ?_, ?_, ?_, ?_, ?_, ?_, ?_, ?_, ?_, ?_, ?_, ?_, ?_, ?_, ?_, ?_, ?_, ?_, ?_, ?_, ?_, ?_, ?_, ?_, ?_, ?_, ?_, ?_, ?_, ?_, ?_, ?_, ?_, ?_, ?_, ?_, ?_, ?_, ?_, ?_, ?_, ?_, ?_, ?_, ?_, ?_, ?_, ?_, ?_, ?_, trivial⟩ ?_)
      · exact pz rfl rfl rfl rfl fun _ _ _ h => h
      · exact pz rfl rfl rfl rfl fun _ _ _ h => h
      ·
       intro D ρ w420 hcD hnD hdD hW
       have zhW := hW.size
       refine ⟨_, kf_fr [120, 121], fun Lr => ?_⟩
       have D423 := ((((((ha4.keep u33 (fun _ h => h)).keep u370 (fun _ h => h)).keep u378 (fun hb => show ¬ ((g4 = bk367 ∧ bk367 ≤ g4)) by first | omega | assumption)).keep u382 (fun _ h => h)).keep u391 (fun _ h => h)).keep hW (fun _ h => h))
       have i424 : k2 < tr.length := (by omega)
       refine t_index (j := k2) Try.underlying45 Try.sizeOf3 rfl rfl rfl rfl ((D423.sl (fun _ => rfl)).addr (by omega)) rfl i424 ?_
       exact dz rfl hW
      ·
       intro D ρ w425 hcD hnD hdD hW
       have zhW := hW.size
       refine ⟨_, kf_fr [122], fun Lr => ?_⟩
       have D428 := ((((((ha4.keep u33 (fun _ h => h)).keep u370 (fun _ h => h)).keep u378 (fun hb => show ¬ ((g4 = bk367 ∧ bk367 ≤ g4)) by first | omega | assumption)).keep u382 (fun _ h => h)).keep u391 (fun _ h => h)).keep hW (fun _ h => h))
       refine t_load Try.isAgg3 rfl rfl rfl (((D428.sl (fun _ => rfl)).at_ k2 (by omega)) 0 _ rfl) ?_
       exact dz rfl hW
      · exact pz rfl rfl rfl rfl fun _ _ _ h => h
      · exact pz rfl rfl rfl rfl fun _ _ _ h => h
      ·
       intro D ρ w429 hcD hnD hdD hW
       have zhW := hW.size
       refine ⟨_, kf_fr [124, 125], fun Lr => ?_⟩
       have D432 := ((hsM.keep u391 (fun _ h => h)).keep hW (fun _ h => h))
       have i433 : k2 < M.length := (by omega)
       refine t_index (j := k2) Try.underlying73 Try.sizeOf77 rfl rfl rfl rfl (D432.addr (by omega)) rfl (by omega) ?_
       exact dz rfl hW
      · exact pzf Try.underlying77 rfl Try.sizeOf3 (0 + k2 * 2 + 0) rfl rfl rfl rfl rfl fun _ _ _ h => h
      ·
       intro D ρ w434 hcD hnD hdD hW
       have zhW := hW.size
       refine ⟨_, kf_fr [127], fun Lr => ?_⟩
       have D437 := ((hsM.keep u391 (fun _ h => h)).keep hW (fun _ h => h))
       refine t_load Try.isAgg3 rfl rfl rfl ((D437.at_ k2 (by omega)) 0 _ rfl) ?_
       exact dz rfl hW
      · exact pz rfl rfl rfl rfl fun _ _ _ h => h
      · exact fun D ρ w _ _ _ hW => ⟨[(129, .bool (decide ((nth tr k2) < (nth M k2).lo)))], ⟨fi 9 rfl rfl rfl, trivial⟩, fun Lr => t_move rfl rfl rfl (t_samehd (v := .bool false) (by first | exact congrArg Value.bool (decide_eq_false g130) | exact congrArg Value.bool g130 | simp [g130]) (dz rfl hW))⟩
      · exact pz rfl rfl rfl rfl fun _ _ _ h => h
      · exact pz rfl rfl rfl rfl fun _ _ _ h => h
      ·
       intro D ρ w438 hcD hnD hdD hW
       have zhW := hW.size
       refine ⟨_, kf_fr [130, 131, 132], fun Lr => ?_⟩
       have D441 := ((((((ha4.keep u33 (fun _ h => h)).keep u370 (fun _ h => h)).keep u378 (fun hb => show ¬ ((g4 = bk367 ∧ bk367 ≤ g4)) by first | omega | assumption)).keep u382 (fun _ h => h)).keep u391 (fun _ h => h)).keep hW (fun _ h => h))
       have i442 : k2 < tr.length := (by omega)
       refine t_index (j := k2) Try.underlying45 Try.sizeOf3 rfl rfl rfl rfl ((D441.sl (fun _ => rfl)).addr (by omega)) rfl i442 ?_
       exact dz rfl hW
      ·
       intro D ρ w443 hcD hnD hdD hW
       have zhW := hW.size
       refine ⟨_, kf_fr [130, 133], fun Lr => ?_⟩
       have D446 := ((((((ha4.keep u33 (fun _ h => h)).keep u370 (fun _ h => h)).keep u378 (fun hb => show ¬ ((g4 = bk367 ∧ bk367 ≤ g4)) by first | omega | assumption)).keep u382 (fun _ h => h)).keep u391 (fun _ h => h)).keep hW (fun _ h => h))
       refine t_load Try.isAgg3 rfl rfl rfl (((D446.sl (fun _ => rfl)).at_ k2 (by omega)) 0 _ rfl) ?_
       exact dz rfl hW
      · exact pz rfl rfl rfl rfl fun _ _ _ h => h
      · exact pz rfl rfl rfl rfl fun _ _ _ h => h
      ·
       intro D ρ w447 hcD hnD hdD hW
       have zhW := hW.size
       refine ⟨_, kf_fr [130, 135, 136], fun Lr => ?_⟩
       have D450 := ((hsM.keep u391 (fun _ h => h)).keep hW (fun _ h => h))
       have i451 : k2 < M.length := (by omega)
       refine t_index (j := k2) Try.underlying73 Try.sizeOf77 rfl rfl rfl rfl (D450.addr (by omega)) rfl (by omega) ?_
       exact dz rfl hW
      · exact pzf Try.underlying77 rfl Try.sizeOf3 (0 + k2 * 2 + 1) rfl rfl rfl rfl rfl fun _ _ _ h => h
      ·
       intro D ρ w452 hcD hnD hdD hW
       have zhW := hW.size
       refine ⟨_, kf_fr [130, 138], fun Lr => ?_⟩
       have D455 := ((hsM.keep u391 (fun _ h => h)).keep hW (fun _ h => h))
       refine t_load Try.isAgg3 rfl rfl rfl ((D455.at_ k2 (by omega)) 1 _ rfl) ?_
       exact dz rfl hW
      · exact pz rfl rfl rfl rfl fun _ _ _ h => h
      · exact pz rfl rfl rfl rfl fun _ _ _ h => h
      · exact fun D ρ w _ _ _ hW => ⟨[(141, .bool (decide ((nth M k2).hi < (nth tr k2))))], ⟨fi 21 rfl rfl rfl, trivial⟩, fun Lr => t_move rfl rfl rfl (t_samehd (v := .bool false) (by first | exact congrArg Value.bool (decide_eq_false g142) | exact congrArg Value.bool g142 | simp [g142]) (dz rfl hW))⟩
      · exact pz rfl rfl rfl rfl fun _ _ _ h => h
      · exact pz rfl rfl rfl rfl fun _ _ _ h => h
      ·
       intro D ρ w456 hcD hnD hdD hW
       have zhW := hW.size
       refine ⟨_, kf_fr [142, 143, 144], fun Lr => ?_⟩
       have D459 := ((hsM.keep u391 (fun _ h => h)).keep hW (fun _ h => h))
       have i460 : k2 < M.length := (by omega)
       refine t_index (j := k2) Try.underlying73 Try.sizeOf77 rfl rfl rfl rfl (D459.addr (by omega)) rfl (by omega) ?_
       exact dz rfl hW
      · exact pzf Try.underlying77 rfl Try.sizeOf3 (0 + k2 * 2 + 0) rfl rfl rfl rfl rfl fun _ _ _ h => h
      ·
       intro D ρ w461 hcD hnD hdD hW
       have zhW := hW.size
       refine ⟨_, kf_fr [142, 146], fun Lr => ?_⟩
       have D464 := ((hsM.keep u391 (fun _ h => h)).keep hW (fun _ h => h))
       refine t_load Try.isAgg3 rfl rfl rfl ((D464.at_ k2 (by omega)) 0 _ rfl) ?_
       exact dz rfl hW
      · exact pz rfl rfl rfl rfl fun _ _ _ h => h
      · exact pz rfl rfl rfl rfl fun _ _ _ h => h
      · exact fun D ρ w _ _ _ hW => ⟨[(149, .bool (decide ((nth M k2).lo < 0)))], ⟨fi 29 rfl rfl rfl, trivial⟩, fun Lr => t_move rfl rfl rfl (t_samehd (v := .bool false) (by first | exact congrArg Value.bool (decide_eq_false g150) | exact congrArg Value.bool g150 | simp [g150]) (dz rfl hW))⟩
      · exact pz rfl rfl rfl rfl fun _ _ _ h => h
      · exact pz rfl rfl rfl rfl fun _ _ _ h => h
      · exact fun D ρ w _ _ _ hW => ⟨[(150, .bool false), (152, .bool (decide (0 < (k2 : Int))))], ⟨fi 30 rfl rfl rfl, fi 32 rfl rfl rfl, trivial⟩, fun Lr => t_move rfl rfl rfl (t_samehd (v := .bool true) (by first | exact congrArg Value.bool (decide_eq_true g153) | exact congrArg Value.bool g153 | simp [g153]) (dz rfl hW))⟩
      · exact pz rfl rfl rfl rfl fun _ _ _ h => h
      · exact pz rfl rfl rfl rfl fun _ _ _ h => h
      ·
       intro D ρ w465 hcD hnD hdD hW
       have zhW := hW.size
       refine ⟨_, kf_fr [153, 154, 155], fun Lr => ?_⟩
       have D468 := ((hsM.keep u391 (fun _ h => h)).keep hW (fun _ h => h))
       have i469 : k2 < M.length := (by omega)
       refine t_index (j := k2) Try.underlying73 Try.sizeOf77 rfl rfl rfl rfl (D468.addr (by omega)) rfl (by omega) ?_
       exact dz rfl hW
      · exact pzf Try.underlying77 rfl Try.sizeOf3 (0 + k2 * 2 + 0) rfl rfl rfl rfl rfl fun _ _ _ h => h
      ·
       intro D ρ w470 hcD hnD hdD hW
       have zhW := hW.size
       refine ⟨_, kf_fr [153, 157], fun Lr => ?_⟩
       have D473 := ((hsM.keep u391 (fun _ h => h)).keep hW (fun _ h => h))
       refine t_load Try.isAgg3 rfl rfl rfl ((D473.at_ k2 (by omega)) 0 _ rfl) ?_
       exact dz rfl hW
      · exact pz rfl rfl rfl rfl fun _ _ _ h => h
      · exact pz rfl rfl rfl rfl fun _ _ _ h => h
      ·
       intro D ρ w474 hcD hnD hdD hW
       have zhW := hW.size
       refine ⟨_, kf_fr [153, 160], fun Lr => ?_⟩
       refine t_ari rfl rfl rfl rfl rfl (by omega) ?_
       exact dz rfl hW
      ·
       intro D ρ w477 hcD hnD hdD hW
       have zhW := hW.size
       refine ⟨_, kf_fr [153, 159, 161], fun Lr => ?_⟩
       have D480 := ((hsM.keep u391 (fun _ h => h)).keep hW (fun _ h => h))
       have i481 : (k2 - 1) < M.length := (by omega)
       refine t_index (j := (k2 - 1)) Try.underlying73 Try.sizeOf77 rfl rfl rfl rfl (D480.addr (by omega)) (by omega) (by omega) ?_
       exact dz rfl hW
      · exact pzf Try.underlying77 rfl Try.sizeOf3 (0 + (k2 - 1) * 2 + 0) rfl rfl rfl rfl rfl fun _ _ _ h => h
      ·
       intro D ρ w482 hcD hnD hdD hW
       have zhW := hW.size
       refine ⟨_, kf_fr [153, 163], fun Lr => ?_⟩
       have D485 := ((hsM.keep u391 (fun _ h => h)).keep hW (fun _ h => h))
       refine t_load Try.isAgg3 rfl rfl rfl ((D485.at_ (k2 - 1) (by omega)) 0 _ rfl) ?_
       exact dz rfl hW
      · exact pz rfl rfl rfl rfl fun _ _ _ h => h
      · exact fun D ρ w _ _ _ hW => ⟨[(153, .bool true), (165, .bool (decide ((nth M k2).lo < (nth M (k2 - 1)).lo)))], ⟨fi 33 rfl rfl rfl, fi 45 rfl rfl rfl, trivial⟩, fun Lr => t_move rfl rfl rfl (t_samehd (v := .bool false) (by first | exact congrArg Value.bool (decide_eq_false g166) | exact congrArg Value.bool g166 | simp [g166]) (dz rfl hW))⟩
      · exact pz rfl rfl rfl rfl fun _ _ _ h => h
      · exact pz rfl rfl rfl rfl fun _ _ _ h => h
      ·
       intro D ρ w486 hcD hnD hdD hW
       have zhW := hW.size
       refine ⟨_, kf_fr [166, 167, 168], fun Lr => ?_⟩
       have D489 := ((hsM.keep u391 (fun _ h => h)).keep hW (fun _ h => h))
       have i490 : k2 < M.length := (by omega)
       refine t_index (j := k2) Try.underlying73 Try.sizeOf77 rfl rfl rfl rfl (D489.addr (by omega)) rfl (by omega) ?_
       exact dz rfl hW
      · exact pzf Try.underlying77 rfl Try.sizeOf3 (0 + k2 * 2 + 1) rfl rfl rfl rfl rfl fun _ _ _ h => h
      ·
       intro D ρ w491 hcD hnD hdD hW
       have zhW := hW.size
       refine ⟨_, kf_fr [166, 170], fun Lr => ?_⟩
       have D494 := ((hsM.keep u391 (fun _ h => h)).keep hW (fun _ h => h))
       refine t_load Try.isAgg3 rfl rfl rfl ((D494.at_ k2 (by omega)) 1 _ rfl) ?_
       exact dz rfl hW
      · exact pz rfl rfl rfl rfl fun _ _ _ h => h
      · exact pz rfl rfl rfl rfl fun _ _ _ h => h
      ·
       intro D ρ w495 hcD hnD hdD hW
       have zhW := hW.size
       refine ⟨_, kf_fr [166, 173], fun Lr => ?_⟩
       refine t_ari rfl rfl rfl rfl rfl (by omega) ?_
       exact dz rfl hW
      ·
       intro D ρ w498 hcD hnD hdD hW
       have zhW := hW.size
       refine ⟨_, kf_fr [166, 172, 174], fun Lr => ?_⟩
       have D501 := ((hsM.keep u391 (fun _ h => h)).keep hW (fun _ h => h))
       have i502 : (k2 - 1) < M.length := (by omega)
       refine t_index (j := (k2 - 1)) Try.underlying73 Try.sizeOf77 rfl rfl rfl rfl (D501.addr (by omega)) (by omega) (by omega) ?_
       exact dz rfl hW
      · exact pzf Try.underlying77 rfl Try.sizeOf3 (0 + (k2 - 1) * 2 + 1) rfl rfl rfl rfl rfl fun _ _ _ h => h
      ·
       intro D ρ w503 hcD hnD hdD hW
       have zhW := hW.size
       refine ⟨_, kf_fr [166, 176], fun Lr => ?_⟩
       have D506 := ((hsM.keep u391 (fun _ h => h)).keep hW (fun _ h => h))
       refine t_load Try.isAgg3 rfl rfl rfl ((D506.at_ (k2 - 1) (by omega)) 1 _ rfl) ?_
       exact dz rfl hW
      · exact pz rfl rfl rfl rfl fun _ _ _ h => h
      · exact pz rfl rfl rfl rfl fun _ _ _ h => h
      · exact pz rfl rfl rfl rfl fun _ _ _ h => h
      · exact pz rfl rfl rfl rfl fun _ _ _ h => h
      intro ρ w507 hW
      have u508 : Upd (fun _ => False) w390 w507 := hW
      have zu508 := u508.size
      refine QK.weak [(3, .slice ao3 us.length c3), (4, .slice ao4 tr.length c4), (8, .slice (some ⟨gM, 0, none⟩) us.length us.length), (11, .int .i64 (k2 : Int)), (181, .bool (decide ((nth M k2).hi < (nth M (k2 - 1)).hi)))] ⟨rfl, rfl, rfl, rfl, rfl, trivial⟩ ?_
      exact hK399 (decide ((nth M k2).hi < (nth M (k2 - 1)).hi)) _ _ ⟨rfl, rfl, rfl, rfl, rfl, trivial⟩ ⟨((Upd.refl _ _).next u508 (fun _ _ h => h.elim)), (decide_eq_false (by omega))⟩
     ·
      refine WC.weak [(3, .slice ao3 us.length c3), (4, .slice ao4 tr.length c4), (8, .slice (some ⟨gM, 0, none⟩) us.length us.length), (11, .int .i64 (k2 : Int))] ⟨rfl, rfl, rfl, rfl, trivial⟩ (c_drawn follows 62 [some (120, some (.slice ao4 tr.length c4)), some (121, some (.int .i64 (k2 : Int))), some (122, some (.pointer (some ⟨g4, 0 + k2 * 1, none⟩))), some (123, some (.int .i64 (nth tr k2))), some (124, some (.slice (some ⟨gM, 0, none⟩) us.length us.length)), some (125, some (.int .i64 (k2 : Int))), some (126, some (.pointer (some ⟨gM, 0 + k2 * 2, none⟩))), some (127, some (.pointer (some ⟨gM, 0 + k2 * 2 + 0, none⟩))), some (128, some (.int .i64 ((nth M k2).lo))), some (129, some (.bool (decide ((nth tr k2) < (nth M k2).lo)))), some (130, some (.bool false)), some (131, some (.slice ao4 tr.length c4)), some (132, some (.int .i64 (k2 : Int))), some (133, some (.pointer (some ⟨g4, 0 + k2 * 1, none⟩))), some (134, some (.int .i64 (nth tr k2))), some (135, some (.slice (some ⟨gM, 0, none⟩) us.length us.length)), some (136, some (.int .i64 (k2 : Int))), some (137, some (.pointer (some ⟨gM, 0 + k2 * 2, none⟩))), some (138, some (.pointer (some ⟨gM, 0 + k2 * 2 + 1, none⟩))), some (139, some (.int .i64 ((nth M k2).hi))), some (140, some (.bool (decide ((nth M k2).hi < (nth tr k2))))), some (141, some (.bool (decide ((nth M k2).hi < (nth tr k2))))), some (142, some (.bool false)), some (143, some (.slice (some ⟨gM, 0, none⟩) us.length us.length)), some (144, some (.int .i64 (k2 : Int))), some (145, some (.pointer (some ⟨gM, 0 + k2 * 2, none⟩))), some (146, some (.pointer (some ⟨gM, 0 + k2 * 2 + 0, none⟩))), some (147, some (.int .i64 ((nth M k2).lo))), some (148, some (.bool (decide ((nth M k2).lo < 0)))), some (149, some (.bool (decide ((nth M k2).lo < 0)))), some (150, some (.bool false)), some (151, some (.int .i64 (k2 : Int))), some (152, some (.bool (decide (0 < (k2 : Int))))), some (153, some (.bool false)), some (154, some (undef)), some (155, some (undef)), some (156, some (undef)), some (157, some (undef)), some (158, some (undef)), some (159, some (undef)), some (160, some (undef)), some (161, some (undef)), some (162, some (undef)), some (163, some (undef)), some (164, some (undef)), some (165, some (undef)), some (166, some (undef)), some (167, some (undef)), some (168, some (undef)), some (169, some (undef)), some (170, some (undef)), some (171, some (undef)), some (172, some (undef)), some (173, some (undef)), some (174, some (undef)), some (175, some (undef)), some (176, some (undef)), some (177, some (undef)), some (178, some (undef)), some (179, some (undef)), some (180, some (.bool false)), some (181, some (.bool false))] [[],[],[0,1],[2],[],[],[4,5],[6],[7],[3,8],[9],[10],[10],[11,12,10],[13,10],[10],[10],[15,16,10],[17,10],[18,10],[14,19,10],[10,20],[21,10],[22],[22],[23,24,22],[25,22],[26,22],[27,22],[22,28],[29,22],[30],[31,30],[32,30,30],[33],[33],[34,35,33],[36,33],[37,33],[33],[33],[40,33],[39,41,33],[42,33],[43,33],[38,44,33],[45,33,33],[46],[46],[47,48,46],[49,46],[50,46],[46],[46],[53,46],[52,54,46],[55,46],[56,46],[51,57,46],[46,58,33],[33,59,30],[30,60]] (fun _ _ w => Upd (fun _ => False) w390 w) rfl rfl rfl (by kernel_rfl) (by kernel_rfl) (Upd.drew _).to ⟨?_, ?_, ?_, ?_, ?_, ?_, ?_, ?_, ?_, ?_, ?_, ?_, ?_, ?_, ?_, ?_, ?_, ?_, ?_, ?_, ?_, ?_, ?_, ?_, ?_, ?_, ?_, ?_, ?_, ?_, ?_, ?_, ?_, ?_, ?_, ?_, ?_, ?_, ?_, ?_, ?_, ?_, ?_, ?_, ?_, ?_, ?_, ?_, ?_, ?_, ?_, ?_, ?_, ?_, ?_, ?_, ?_, ?_, ?_, ?_, ?_, ?_, trivial⟩ ?_)
      · exact pz rfl rfl rfl rfl fun _ _ _ h => h
      · exact pz rfl rfl rfl rfl fun _ _ _ h => h
      ·
       intro D ρ w517 hcD hnD hdD hW
       have zhW := hW.size
       refine ⟨_, kf_fr [120, 121], fun Lr => ?_⟩
       have D520 := ((((((ha4.keep u33 (fun _ h => h)).keep u370 (fun _ h => h)).keep u378 (fun hb => show ¬ ((g4 = bk367 ∧ bk367 ≤ g4)) by first | omega | assumption)).keep u382 (fun _ h => h)).keep u391 (fun _ h => h)).keep hW (fun _ h => h))
       have i521 : k2 < tr.length := (by omega)
       refine t_index (j := k2) Try.underlying45 Try.sizeOf3 rfl rfl rfl rfl ((D520.sl (fun _ => rfl)).addr (by omega)) rfl i521 ?_
       exact dz rfl hW
      ·
       intro D ρ w522 hcD hnD hdD hW
       have zhW := hW.size
       refine ⟨_, kf_fr [122], fun Lr => ?_⟩
       have D525 := ((((((ha4.keep u33 (fun _ h => h)).keep u370 (fun _ h => h)).keep u378 (fun hb => show ¬ ((g4 = bk367 ∧ bk367 ≤ g4)) by first | omega | assumption)).keep u382 (fun _ h => h)).keep u391 (fun _ h => h)).keep hW (fun _ h => h))
       refine t_load Try.isAgg3 rfl rfl rfl (((D525.sl (fun _ => rfl)).at_ k2 (by omega)) 0 _ rfl) ?_
       exact dz rfl hW
      · exact pz rfl rfl rfl rfl fun _ _ _ h => h
      · exact pz rfl rfl rfl rfl fun _ _ _ h => h
      ·
       intro D ρ w526 hcD hnD hdD hW
       have zhW := hW.size
       refine ⟨_, kf_fr [124, 125], fun Lr => ?_⟩
       have D529 := ((hsM.keep u391 (fun _ h => h)).keep hW (fun _ h => h))
       have i530 : k2 < M.length := (by omega)
       refine t_index (j := k2) Try.underlying73 Try.sizeOf77 rfl rfl rfl rfl (D529.addr (by omega)) rfl (by omega) ?_
       exact dz rfl hW
      · exact pzf Try.underlying77 rfl Try.sizeOf3 (0 + k2 * 2 + 0) rfl rfl rfl rfl rfl fun _ _ _ h => h
      ·
       intro D ρ w531 hcD hnD hdD hW
       have zhW := hW.size
       refine ⟨_, kf_fr [127], fun Lr => ?_⟩
       have D534 := ((hsM.keep u391 (fun _ h => h)).keep hW (fun _ h => h))
       refine t_load Try.isAgg3 rfl rfl rfl ((D534.at_ k2 (by omega)) 0 _ rfl) ?_
       exact dz rfl hW
      · exact pz rfl rfl rfl rfl fun _ _ _ h => h
      · exact fun D ρ w _ _ _ hW => ⟨[(129, .bool (decide ((nth tr k2) < (nth M k2).lo)))], ⟨fi 9 rfl rfl rfl, trivial⟩, fun Lr => t_move rfl rfl rfl (t_samehd (v := .bool false) (by first | exact congrArg Value.bool (decide_eq_false g130) | exact congrArg Value.bool g130 | simp [g130]) (dz rfl hW))⟩
      · exact pz rfl rfl rfl rfl fun _ _ _ h => h
      · exact pz rfl rfl rfl rfl fun _ _ _ h => h
      ·
       intro D ρ w535 hcD hnD hdD hW
       have zhW := hW.size
       refine ⟨_, kf_fr [130, 131, 132], fun Lr => ?_⟩
       have D538 := ((((((ha4.keep u33 (fun _ h => h)).keep u370 (fun _ h => h)).keep u378 (fun hb => show ¬ ((g4 = bk367 ∧ bk367 ≤ g4)) by first | omega | assumption)).keep u382 (fun _ h => h)).keep u391 (fun _ h => h)).keep hW (fun _ h => h))
       have i539 : k2 < tr.length := (by omega)
       refine t_index (j := k2) Try.underlying45 Try.sizeOf3 rfl rfl rfl rfl ((D538.sl (fun _ => rfl)).addr (by omega)) rfl i539 ?_
       exact dz rfl hW
      ·
       intro D ρ w540 hcD hnD hdD hW
       have zhW := hW.size
       refine ⟨_, kf_fr [130, 133], fun Lr => ?_⟩
       have D543 := ((((((ha4.keep u33 (fun _ h => h)).keep u370 (fun _ h => h)).keep u378 (fun hb => show ¬ ((g4 = bk367 ∧ bk367 ≤ g4)) by first | omega | assumption)).keep u382 (fun _ h => h)).keep u391 (fun _ h => h)).keep hW (fun _ h => h))
       refine t_load Try.isAgg3 rfl rfl rfl (((D543.sl (fun _ => rfl)).at_ k2 (by omega)) 0 _ rfl) ?_
       exact dz rfl hW
      · exact pz rfl rfl rfl rfl fun _ _ _ h => h
      · exact pz rfl rfl rfl rfl fun _ _ _ h => h
      ·
       intro D ρ w544 hcD hnD hdD hW
       have zhW := hW.size
       refine ⟨_, kf_fr [130, 135, 136], fun Lr => ?_⟩
       have D547 := ((hsM.keep u391 (fun _ h => h)).keep hW (fun _ h => h))
       have i548 : k2 < M.length := (by omega)
       refine t_index (j := k2) Try.underlying73 Try.sizeOf77 rfl rfl rfl rfl (D547.addr (by omega)) rfl (by omega) ?_
       exact dz rfl hW
      · exact pzf Try.underlying77 rfl Try.sizeOf3 (0 + k2 * 2 + 1) rfl rfl rfl rfl rfl fun _ _ _ h => h
      ·
       intro D ρ w549 hcD hnD hdD hW
       have zhW := hW.size
       refine ⟨_, kf_fr [130, 138], fun Lr => ?_⟩
       have D552 := ((hsM.keep u391 (fun _ h => h)).keep hW (fun _ h => h))
       refine t_load Try.isAgg3 rfl rfl rfl ((D552.at_ k2 (by omega)) 1 _ rfl) ?_
       exact dz rfl hW
      · exact pz rfl rfl rfl rfl fun _ _ _ h => h
      · exact pz rfl rfl rfl rfl fun _ _ _ h => h
      · exact fun D ρ w _ _ _ hW => ⟨[(141, .bool (decide ((nth M k2).hi < (nth tr k2))))], ⟨fi 21 rfl rfl rfl, trivial⟩, fun Lr => t_move rfl rfl rfl (t_samehd (v := .bool false) (by first | exact congrArg Value.bool (decide_eq_false g142) | exact congrArg Value.bool g142 | simp [g142]) (dz rfl hW))⟩
      · exact pz rfl rfl rfl rfl fun _ _ _ h => h
      · exact pz rfl rfl rfl rfl fun _ _ _ h => h
      ·
       intro D ρ w553 hcD hnD hdD hW
       have zhW := hW.size
       refine ⟨_, kf_fr [142, 143, 144], fun Lr => ?_⟩
       have D556 := ((hsM.keep u391 (fun _ h => h)).keep hW (fun _ h => h))
       have i557 : k2 < M.length := (by omega)
       refine t_index (j := k2) Try.underlying73 Try.sizeOf77 rfl rfl rfl rfl (D556.addr (by omega)) rfl (by omega) ?_
       exact dz rfl hW
      · exact pzf Try.underlying77 rfl Try.sizeOf3 (0 + k2 * 2 + 0) rfl rfl rfl rfl rfl fun _ _ _ h => h
      ·
       intro D ρ w558 hcD hnD hdD hW
       have zhW := hW.size
       refine ⟨_, kf_fr [142, 146], fun Lr => ?_⟩
       have D561 := ((hsM.keep u391 (fun _ h => h)).keep hW (fun _ h => h))
       refine t_load Try.isAgg3 rfl rfl rfl ((D561.at_ k2 (by omega)) 0 _ rfl) ?_
       exact dz rfl hW
      · exact pz rfl rfl rfl rfl fun _ _ _ h => h
      · exact pz rfl rfl rfl rfl fun _ _ _ h => h
      · exact fun D ρ w _ _ _ hW => ⟨[(149, .bool (decide ((nth M k2).lo < 0)))], ⟨fi 29 rfl rfl rfl, trivial⟩, fun Lr => t_move rfl rfl rfl (t_samehd (v := .bool false) (by first | exact congrArg Value.bool (decide_eq_false g150) | exact congrArg Value.bool g150 | simp [g150]) (dz rfl hW))⟩
      · exact pz rfl rfl rfl rfl fun _ _ _ h => h
      · exact pz rfl rfl rfl rfl fun _ _ _ h => h
      · exact fun D ρ w _ _ _ hW => ⟨[(150, .bool false), (152, .bool (decide (0 < (k2 : Int))))], ⟨fi 30 rfl rfl rfl, fi 32 rfl rfl rfl, trivial⟩, fun Lr => t_move rfl rfl rfl (t_samehd (v := .bool false) (by first | exact congrArg Value.bool (decide_eq_false g153) | exact congrArg Value.bool g153 | simp [g153]) (dz rfl hW))⟩
      · exact pz rfl rfl rfl rfl fun _ _ _ h => h
      · exact pz rfl rfl rfl rfl fun _ _ _ h => h
      · exact pz rfl rfl rfl rfl fun _ _ _ h => h
      · exact pz rfl rfl rfl rfl fun _ _ _ h => h
      · exact pz rfl rfl rfl rfl fun _ _ _ h => h
      · exact pz rfl rfl rfl rfl fun _ _ _ h => h
      · exact pz rfl rfl rfl rfl fun _ _ _ h => h
      · exact pz rfl rfl rfl rfl fun _ _ _ h => h
      · exact pz rfl rfl rfl rfl fun _ _ _ h => h
      · exact pz rfl rfl rfl rfl fun _ _ _ h => h
      · exact pz rfl rfl rfl rfl fun _ _ _ h => h
      · exact pz rfl rfl rfl rfl fun _ _ _ h => h
      · exact pz rfl rfl rfl rfl fun _ _ _ h => h
      · exact pz rfl rfl rfl rfl fun _ _ _ h => h
      · exact pz rfl rfl rfl rfl fun _ _ _ h => h
      · exact pz rfl rfl rfl rfl fun _ _ _ h => h
      · exact pz rfl rfl rfl rfl fun _ _ _ h => h
      · exact pz rfl rfl rfl rfl fun _ _ _ h => h
      · exact pz rfl rfl rfl rfl fun _ _ _ h => h
      · exact pz rfl rfl rfl rfl fun _ _ _ h => h
      · exact pz rfl rfl rfl rfl fun _ _ _ h => h
      · exact pz rfl rfl rfl rfl fun _ _ _ h => h
      · exact pz rfl rfl rfl rfl fun _ _ _ h => h
      · exact pz rfl rfl rfl rfl fun _ _ _ h => h
      · exact pz rfl rfl rfl rfl fun _ _ _ h => h
      · exact pz rfl rfl rfl rfl fun _ _ _ h => h
      · exact pz rfl rfl rfl rfl fun _ _ _ h => h
      · exact pz rfl rfl rfl rfl fun _ _ _ h => h
      intro ρ w562 hW
      have u563 : Upd (fun _ => False) w390 w562 := hW
      have zu563 := u563.size
      refine QK.weak [(3, .slice ao3 us.length c3), (4, .slice ao4 tr.length c4), (8, .slice (some ⟨gM, 0, none⟩) us.length us.length), (11, .int .i64 (k2 : Int)), (181, .bool false)] ⟨rfl, rfl, rfl, rfl, rfl, trivial⟩ ?_
      exact hK399 false _ _ ⟨rfl, rfl, rfl, rfl, rfl, trivial⟩ ⟨((Upd.refl _ _).next u563 (fun _ _ h => h.elim)), rfl⟩
    ·
     intro q2 w400 hW
     obtain ⟨u401, I565⟩ := hW
     have zu401 := u401.size
     have hq2 := I565; clear I565
     refine c_cond rfl (fun g181 => ?_) (fun g181 => ?_)
     ·
      rw [hq2] at g181; cases g181
     ·
      refine c_skip (hK397 _ _ (c_seq fun K567 hK567 => (c_region (t_assign rfl rfl rfl (t_nil' (hK567 _ _ (c_block (c_rounds 3 (WR.weak [(3, .slice ao3 us.length c3), (4, .slice ao4 tr.length c4), (8, .slice (some ⟨gM, 0, none⟩) us.length us.length), (11, .int .i64 (k2 : Int)), (12, .int .i64 0)] ⟨rfl, rfl, rfl, rfl, rfl, trivial⟩ (r_round fun K568 hK568 => (c_seq fun K569 hK569 => (c_seq fun K570 hK570 => (c_region (t_move rfl rfl rfl (t_cmp rfl rfl rfl rfl rfl (t_samehd (v := .bool true) rfl (t_nil' (hK570 _ _ (c_cond_t rfl (c_skip (hK569 _ _ (c_seq fun K571 hK571 => (c_block ?_)))))))))))))))))))))))
      refine c_seq fun K572 hK572 => (WC.weak [(3, .slice ao3 us.length c3), (4, .slice ao4 tr.length c4), (8, .slice (some ⟨gM, 0, none⟩) us.length us.length), (11, .int .i64 (k2 : Int)), (12, .int .i64 0)] ⟨rfl, rfl, rfl, rfl, rfl, trivial⟩ (c_drawn follows 15 [some (186, some (.slice (some ⟨gM, 0, none⟩) us.length us.length)), some (187, some (.int .i64 (k2 : Int))), some (188, some (.pointer (some ⟨gM, 0 + k2 * 2, none⟩))), some (189, some (.pointer (some ⟨gM, 0 + k2 * 2 + 0, none⟩))), some (190, some (.int .i64 ((nth M k2).lo))), some (191, some (.slice (some ⟨gM, 0, none⟩) us.length us.length)), some (192, some (.int .i64 (k2 : Int))), some (193, some (.pointer (some ⟨gM, 0 + k2 * 2, none⟩))), some (194, some (.pointer (some ⟨gM, 0 + k2 * 2 + 1, none⟩))), some (195, some (.int .i64 ((nth M k2).hi))), some (196, some (.agg #[.int .i64 ((nth M k2).lo), .int .i64 ((nth M k2).hi)])), some (197, some (.int .i64 0)), some (198, some (.int .i64 ((nth M k2).lo))), some (13, some (.int .i64 ((nth M k2).lo))), some (14, some (.int .i64 0))] [[],[],[0,1],[2],[3],[],[],[5,6],[7],[8],[4,9],[],[10,11],[12,0,1,2,3,4,5,6,7,8,9,10,11,12],[13,0,1,2,3,4,5,6,7,8,9,10,11,12,13]] (fun _ _ w => Upd (fun _ => False) w400 w) rfl rfl rfl (by kernel_rfl) (by kernel_rfl) (Upd.drew _).to ⟨?_, ?_, ?_, ?_, ?_, ?_, ?_, ?_, ?_, ?_, ?_, ?_, ?_, ?_, ?_, trivial⟩ ?_))
      · exact pz rfl rfl rfl rfl fun _ _ _ h => h
      · exact pz rfl rfl rfl rfl fun _ _ _ h => h
      ·
       intro D ρ w576 hcD hnD hdD hW
       have zhW := hW.size
       refine ⟨_, kf_fr [186, 187], fun Lr => ?_⟩
       have D579 := (((hsM.keep u391 (fun _ h => h)).keep u401 (fun _ h => h)).keep hW (fun _ h => h))
       have i580 : k2 < M.length := (by omega)
       refine t_index (j := k2) Try.underlying73 Try.sizeOf77 rfl rfl rfl rfl (D579.addr (by omega)) rfl (by omega) ?_
       exact dz rfl hW
      · exact pzf Try.underlying77 rfl Try.sizeOf3 (0 + k2 * 2 + 0) rfl rfl rfl rfl rfl fun _ _ _ h => h
      ·
       intro D ρ w581 hcD hnD hdD hW
       have zhW := hW.size
       refine ⟨_, kf_fr [189], fun Lr => ?_⟩
       have D584 := (((hsM.keep u391 (fun _ h => h)).keep u401 (fun _ h => h)).keep hW (fun _ h => h))
       refine t_load Try.isAgg3 rfl rfl rfl ((D584.at_ k2 (by omega)) 0 _ rfl) ?_
       exact dz rfl hW
      · exact pz rfl rfl rfl rfl fun _ _ _ h => h
      · exact pz rfl rfl rfl rfl fun _ _ _ h => h
      ·
       intro D ρ w585 hcD hnD hdD hW
       have zhW := hW.size
       refine ⟨_, kf_fr [191, 192], fun Lr => ?_⟩
       have D588 := (((hsM.keep u391 (fun _ h => h)).keep u401 (fun _ h => h)).keep hW (fun _ h => h))
       have i589 : k2 < M.length := (by omega)
       refine t_index (j := k2) Try.underlying73 Try.sizeOf77 rfl rfl rfl rfl (D588.addr (by omega)) rfl (by omega) ?_
       exact dz rfl hW
      · exact pzf Try.underlying77 rfl Try.sizeOf3 (0 + k2 * 2 + 1) rfl rfl rfl rfl rfl fun _ _ _ h => h
      ·
       intro D ρ w590 hcD hnD hdD hW
       have zhW := hW.size
       refine ⟨_, kf_fr [194], fun Lr => ?_⟩
       have D593 := (((hsM.keep u391 (fun _ h => h)).keep u401 (fun _ h => h)).keep hW (fun _ h => h))
       refine t_load Try.isAgg3 rfl rfl rfl ((D593.at_ k2 (by omega)) 1 _ rfl) ?_
       exact dz rfl hW
      · exact fun D ρ w _ _ _ hW => ⟨[(190, .int .i64 ((nth M k2).lo)), (195, .int .i64 ((nth M k2).hi))], ⟨fi 4 rfl rfl rfl, fi 9 rfl rfl rfl, trivial⟩, fun Lr => t_build (ps := [(0, .int .i64 ((nth M k2).lo)), (1, .int .i64 ((nth M k2).hi))]) (v := .agg #[.int .i64 ((nth M k2).lo), .int .i64 ((nth M k2).hi)]) rfl rfl ⟨rfl, rfl⟩ (fun w => by kernel_rfl) (dz rfl hW)⟩
      · exact pz rfl rfl rfl rfl fun _ _ _ h => h
      ·
       intro D ρ w594 hcD hnD hdD hW
       have zhW := hW.size
       refine ⟨_, kf_fr [196, 197], fun Lr => ?_⟩
       refine t_idxv (cs := [.int .i64 ((nth M k2).lo), .int .i64 ((nth M k2).hi)]) 0 Try.underlying104 Try.isAgg3 Try.sizeOf3 rfl rfl rfl rfl rfl (by decide) rfl ?_
       exact dz rfl hW
      · exact pz rfl rfl rfl rfl fun _ _ _ h => h
      · exact pz rfl rfl rfl rfl fun _ _ _ h => h
      intro ρ w597 hW
      have u598 : Upd (fun _ => False) w400 w597 := hW
      have zu598 := u598.size
      refine QK.weak [(3, .slice ao3 us.length c3), (4, .slice ao4 tr.length c4), (8, .slice (some ⟨gM, 0, none⟩) us.length us.length), (11, .int .i64 (k2 : Int)), (12, .int .i64 0), (13, .int .i64 ((nth M k2).lo)), (14, .int .i64 0)] ⟨rfl, rfl, rfl, rfl, rfl, rfl, rfl, trivial⟩ (hK572 _ _ (c_seq fun K600 hK600 => (c_seq fun K601 hK601 => (c_region (t_move rfl rfl rfl (t_cmp rfl rfl rfl rfl rfl (t_nil' (hK601 _ _ (c_condp rfl (fun g200 => ?_) (fun g200 => ?_))))))))))
      ·
       have hup := hB3 (by omega)
       refine WC.weak [(3, .slice ao3 us.length c3), (4, .slice ao4 tr.length c4), (8, .slice (some ⟨gM, 0, none⟩) us.length us.length), (11, .int .i64 (k2 : Int)), (12, .int .i64 0), (13, .int .i64 ((nth M k2).lo))] ⟨rfl, rfl, rfl, rfl, rfl, rfl, trivial⟩ (c_drawn follows 16 [some (201, some (.slice (some ⟨gM, 0, none⟩) us.length us.length)), some (202, some (.int .i64 (k2 : Int))), some (203, some (.int .i64 ((k2 : Int) - 1))), some (204, some (.pointer (some ⟨gM, 0 + (k2 - 1) * 2, none⟩))), some (205, some (.pointer (some ⟨gM, 0 + (k2 - 1) * 2 + 0, none⟩))), some (206, some (.int .i64 ((nth M (k2 - 1)).lo))), some (207, some (.slice (some ⟨gM, 0, none⟩) us.length us.length)), some (208, some (.int .i64 (k2 : Int))), some (209, some (.int .i64 ((k2 : Int) - 1))), some (210, some (.pointer (some ⟨gM, 0 + (k2 - 1) * 2, none⟩))), some (211, some (.pointer (some ⟨gM, 0 + (k2 - 1) * 2 + 1, none⟩))), some (212, some (.int .i64 ((nth M (k2 - 1)).hi))), some (213, some (.agg #[.int .i64 ((nth M (k2 - 1)).lo), .int .i64 ((nth M (k2 - 1)).hi)])), some (214, some (.int .i64 0)), some (215, some (.int .i64 ((nth M (k2 - 1)).lo))), some (14, some (.int .i64 ((nth M (k2 - 1)).lo)))] [[],[],[1],[0,2],[3],[4],[],[],[7],[6,8],[9],[10],[5,11],[],[12,13],[14,0,1,2,3,4,5,6,7,8,9,10,11,12,13,14]] (fun _ _ w => Upd (fun _ => False) w597 w) rfl rfl rfl (by kernel_rfl) (by kernel_rfl) (Upd.drew _).to ⟨?_, ?_, ?_, ?_, ?_, ?_, ?_, ?_, ?_, ?_, ?_, ?_, ?_, ?_, ?_, ?_, trivial⟩ ?_)
       · exact pz rfl rfl rfl rfl fun _ _ _ h => h
       · exact pz rfl rfl rfl rfl fun _ _ _ h => h
       ·
        intro D ρ w605 hcD hnD hdD hW
        have zhW := hW.size
        refine ⟨_, kf_fr [202], fun Lr => ?_⟩
        refine t_ari rfl rfl rfl rfl rfl (by omega) ?_
        exact dz rfl hW
       ·
        intro D ρ w608 hcD hnD hdD hW
        have zhW := hW.size
        refine ⟨_, kf_fr [201, 203], fun Lr => ?_⟩
        have D611 := ((((hsM.keep u391 (fun _ h => h)).keep u401 (fun _ h => h)).keep u598 (fun _ h => h)).keep hW (fun _ h => h))
        have i612 : (k2 - 1) < M.length := (by omega)
        refine t_index (j := (k2 - 1)) Try.underlying73 Try.sizeOf77 rfl rfl rfl rfl (D611.addr (by omega)) (by omega) (by omega) ?_
        exact dz rfl hW
       · exact pzf Try.underlying77 rfl Try.sizeOf3 (0 + (k2 - 1) * 2 + 0) rfl rfl rfl rfl rfl fun _ _ _ h => h
       ·
        intro D ρ w613 hcD hnD hdD hW
        have zhW := hW.size
        refine ⟨_, kf_fr [205], fun Lr => ?_⟩
        have D616 := ((((hsM.keep u391 (fun _ h => h)).keep u401 (fun _ h => h)).keep u598 (fun _ h => h)).keep hW (fun _ h => h))
        refine t_load Try.isAgg3 rfl rfl rfl ((D616.at_ (k2 - 1) (by omega)) 0 _ rfl) ?_
        exact dz rfl hW
       · exact pz rfl rfl rfl rfl fun _ _ _ h => h
       · exact pz rfl rfl rfl rfl fun _ _ _ h => h
       ·
        intro D ρ w617 hcD hnD hdD hW
        have zhW := hW.size
        refine ⟨_, kf_fr [208], fun Lr => ?_⟩
        refine t_ari rfl rfl rfl rfl rfl (by omega) ?_
        exact dz rfl hW
       ·
        intro D ρ w620 hcD hnD hdD hW
        have zhW := hW.size
        refine ⟨_, kf_fr [207, 209], fun Lr => ?_⟩
        have D623 := ((((hsM.keep u391 (fun _ h => h)).keep u401 (fun _ h => h)).keep u598 (fun _ h => h)).keep hW (fun _ h => h))
        have i624 : (k2 - 1) < M.length := (by omega)
        refine t_index (j := (k2 - 1)) Try.underlying73 Try.sizeOf77 rfl rfl rfl rfl (D623.addr (by omega)) (by omega) (by omega) ?_
        exact dz rfl hW
       · exact pzf Try.underlying77 rfl Try.sizeOf3 (0 + (k2 - 1) * 2 + 1) rfl rfl rfl rfl rfl fun _ _ _ h => h
       ·
        intro D ρ w625 hcD hnD hdD hW
        have zhW := hW.size
        refine ⟨_, kf_fr [211], fun Lr => ?_⟩
        have D628 := ((((hsM.keep u391 (fun _ h => h)).keep u401 (fun _ h => h)).keep u598 (fun _ h => h)).keep hW (fun _ h => h))
        refine t_load Try.isAgg3 rfl rfl rfl ((D628.at_ (k2 - 1) (by omega)) 1 _ rfl) ?_
        exact dz rfl hW
       · exact fun D ρ w _ _ _ hW => ⟨[(206, .int .i64 ((nth M (k2 - 1)).lo)), (212, .int .i64 ((nth M (k2 - 1)).hi))], ⟨fi 5 rfl rfl rfl, fi 11 rfl rfl rfl, trivial⟩, fun Lr => t_build (ps := [(0, .int .i64 ((nth M (k2 - 1)).lo)), (1, .int .i64 ((nth M (k2 - 1)).hi))]) (v := .agg #[.int .i64 ((nth M (k2 - 1)).lo), .int .i64 ((nth M (k2 - 1)).hi)]) rfl rfl ⟨rfl, rfl⟩ (fun w => by kernel_rfl) (dz rfl hW)⟩
       · exact pz rfl rfl rfl rfl fun _ _ _ h => h
       ·
        intro D ρ w629 hcD hnD hdD hW
        have zhW := hW.size
        refine ⟨_, kf_fr [213, 214], fun Lr => ?_⟩
        refine t_idxv (cs := [.int .i64 ((nth M (k2 - 1)).lo), .int .i64 ((nth M (k2 - 1)).hi)]) 0 Try.underlying104 Try.isAgg3 Try.sizeOf3 rfl rfl rfl rfl rfl (by decide) rfl ?_
        exact dz rfl hW
       · exact pz rfl rfl rfl rfl fun _ _ _ h => h
       intro ρ w632 hW
       have u633 : Upd (fun _ => False) w597 w632 := hW
       have zu633 := u633.size
       refine QK.weak [(3, .slice ao3 us.length c3), (4, .slice ao4 tr.length c4), (8, .slice (some ⟨gM, 0, none⟩) us.length us.length), (11, .int .i64 (k2 : Int)), (12, .int .i64 0), (13, .int .i64 ((nth M k2).lo)), (14, .int .i64 ((nth M (k2 - 1)).lo))] ⟨rfl, rfl, rfl, rfl, rfl, rfl, rfl, trivial⟩ (hK600 _ _ (c_seq fun K635 hK635 => (c_region (t_move rfl rfl rfl (t_move rfl rfl rfl ?_)))))
       have D636 := ((((((D372.keep u378 (fun hb => show ¬ ((g3 = bk367 ∧ bk367 ≤ g3)) by first | omega | assumption)).keep u382 (fun _ h => h)).keep u391 (fun _ h => h)).keep u401 (fun _ h => h)).keep u598 (fun _ h => h)).keep u633 (fun _ h => h))
       have i637 : k2 < us.length := (by omega)
       refine t_index (j := k2) Try.underlying72 Try.sizeOf79 rfl rfl rfl rfl ((D636.sl (fun _ => rfl)).addr (by omega)) rfl i637 (t_field Try.underlying79 rfl Try.sizeOf3 (0 + k2 * 4 + 0) rfl rfl rfl rfl (t_load Try.isAgg3 rfl rfl rfl (((D636.sl (fun _ => rfl)).at_ k2 (by omega)) 0 _ rfl) (t_move rfl rfl rfl (t_ari rfl rfl rfl rfl rfl (by omega) (t_assign rfl rfl rfl (t_nil' (hK635 _ _ (c_seq fun K638 hK638 => (c_region (t_move rfl rfl rfl (t_move rfl rfl rfl (t_move rfl rfl rfl ?_))))))))))))
       have i639 : k2 < us.length := (by omega)
       refine t_index (j := k2) Try.underlying72 Try.sizeOf79 rfl rfl rfl rfl ((D636.sl (fun _ => rfl)).addr (by omega)) rfl i639 (t_field Try.underlying79 rfl Try.sizeOf77 (0 + k2 * 4 + 1) rfl rfl rfl rfl (t_field Try.underlying77 rfl Try.sizeOf3 (0 + k2 * 4 + 1 + 0) rfl rfl rfl rfl (t_load Try.isAgg3 rfl rfl rfl (((D636.sl (fun _ => rfl)).at_ k2 (by omega)) 1 _ rfl) (t_cmp rfl rfl rfl rfl rfl (t_move rfl rfl rfl (t_splitp 231 rfl (fun g231 => ?_) (fun g231 => ?_)))))))
       ·
        exact absurd g231 (by omega)
       ·
        refine t_move rfl rfl rfl (t_move rfl rfl rfl (t_move rfl rfl rfl ?_))
        have i640 : k2 < us.length := (by omega)
        refine t_index (j := k2) Try.underlying72 Try.sizeOf79 rfl rfl rfl rfl ((D636.sl (fun _ => rfl)).addr (by omega)) rfl i640 (t_field Try.underlying79 rfl Try.sizeOf77 (0 + k2 * 4 + 1) rfl rfl rfl rfl (t_field Try.underlying77 rfl Try.sizeOf3 (0 + k2 * 4 + 1 + 1) rfl rfl rfl rfl (t_load Try.isAgg3 rfl rfl rfl (((D636.sl (fun _ => rfl)).at_ k2 (by omega)) 2 _ rfl) (t_cmp rfl rfl rfl rfl rfl (t_pick_f rfl rfl rfl rfl (t_move rfl rfl rfl (t_splitp 241 rfl (fun g241 => ?_) (fun g241 => ?_))))))))
        ·
         exact absurd g241 (by omega)
        ·
         refine t_move rfl rfl rfl (t_move rfl rfl rfl (t_cmp rfl rfl rfl rfl rfl (t_pick_f rfl rfl rfl rfl (t_move rfl rfl rfl (t_splitp 246 rfl (fun g246 => ?_) (fun g246 => ?_))))))
         ·
          exact absurd g246 (by omega)
         ·
          refine t_move rfl rfl rfl (t_move rfl rfl rfl ?_)
          have i641 : k2 < us.length := (by omega)
          refine t_index (j := k2) Try.underlying72 Try.sizeOf79 rfl rfl rfl rfl ((D636.sl (fun _ => rfl)).addr (by omega)) rfl i641 (t_field Try.underlying79 rfl Try.sizeOf4 (0 + k2 * 4 + 3) rfl rfl rfl rfl (t_load Try.isAgg4 rfl rfl rfl (((D636.sl (fun _ => rfl)).at_ k2 (by omega)) 3 _ rfl) (t_move rfl rfl rfl (t_split 252 rfl (fun g252 => ?_) (fun g252 => ?_)))))
          ·
           have hsl := g252
           have hB7 := hB5 hsl
           rw [if_neg (by omega)] at hB7
           refine t_move rfl rfl rfl (t_move rfl rfl rfl (t_cmp rfl rfl rfl rfl rfl (t_pick_t rfl rfl rfl rfl (t_pick_f rfl rfl rfl rfl (t_nil' (hK638 _ _ (c_condp rfl (fun g257 => ?_) (fun g257 => ?_))))))))
           ·
            exact absurd g257 (by omega)
           ·
            refine c_skip (hK571 _ _ (c_region (t_move rfl rfl rfl (t_ari rfl rfl rfl rfl rfl (by omega) (t_samehd (v := .int .i64 1) rfl (t_assign rfl rfl rfl (t_nil' (hK568 _ _ (WR.weak [(3, .slice ao3 us.length c3), (4, .slice ao4 tr.length c4), (8, .slice (some ⟨gM, 0, none⟩) us.length us.length), (11, .int .i64 (k2 : Int)), (12, .int .i64 1)] ⟨rfl, rfl, rfl, rfl, rfl, trivial⟩ (r_round fun K642 hK642 => (c_seq fun K643 hK643 => (c_seq fun K644 hK644 => (c_region (t_move rfl rfl rfl (t_cmp rfl rfl rfl rfl rfl (t_samehd (v := .bool true) rfl (t_nil' (hK644 _ _ (c_cond_t rfl (c_skip (hK643 _ _ (c_seq fun K645 hK645 => (c_block ?_)))))))))))))))))))))))
            refine c_seq fun K646 hK646 => (WC.weak [(3, .slice ao3 us.length c3), (4, .slice ao4 tr.length c4), (8, .slice (some ⟨gM, 0, none⟩) us.length us.length), (11, .int .i64 (k2 : Int)), (12, .int .i64 1)] ⟨rfl, rfl, rfl, rfl, rfl, trivial⟩ (c_drawn follows 15 [some (186, some (.slice (some ⟨gM, 0, none⟩) us.length us.length)), some (187, some (.int .i64 (k2 : Int))), some (188, some (.pointer (some ⟨gM, 0 + k2 * 2, none⟩))), some (189, some (.pointer (some ⟨gM, 0 + k2 * 2 + 0, none⟩))), some (190, some (.int .i64 ((nth M k2).lo))), some (191, some (.slice (some ⟨gM, 0, none⟩) us.length us.length)), some (192, some (.int .i64 (k2 : Int))), some (193, some (.pointer (some ⟨gM, 0 + k2 * 2, none⟩))), some (194, some (.pointer (some ⟨gM, 0 + k2 * 2 + 1, none⟩))), some (195, some (.int .i64 ((nth M k2).hi))), some (196, some (.agg #[.int .i64 ((nth M k2).lo), .int .i64 ((nth M k2).hi)])), some (197, some (.int .i64 1)), some (198, some (.int .i64 ((nth M k2).hi))), some (13, some (.int .i64 ((nth M k2).hi))), some (14, some (.int .i64 0))] [[],[],[0,1],[2],[3],[],[],[5,6],[7],[8],[4,9],[],[10,11],[12,0,1,2,3,4,5,6,7,8,9,10,11,12],[13,0,1,2,3,4,5,6,7,8,9,10,11,12,13]] (fun _ _ w => Upd (fun _ => False) w632 w) rfl rfl rfl (by kernel_rfl) (by kernel_rfl) (Upd.drew _).to ⟨?_, ?_, ?_, ?_, ?_, ?_, ?_, ?_, ?_, ?_, ?_, ?_, ?_, ?_, ?_, trivial⟩ ?_))
            · exact pz rfl rfl rfl rfl fun _ _ _ h => h
            · exact pz rfl rfl rfl rfl fun _ _ _ h => h
            ·
             intro D ρ w650 hcD hnD hdD hW
             have zhW := hW.size
             refine ⟨_, kf_fr [186, 187], fun Lr => ?_⟩
             have D653 := (((((hsM.keep u391 (fun _ h => h)).keep u401 (fun _ h => h)).keep u598 (fun _ h => h)).keep u633 (fun _ h => h)).keep hW (fun _ h => h))
             have i654 : k2 < M.length := (by omega)
             refine t_index (j := k2) Try.underlying73 Try.sizeOf77 rfl rfl rfl rfl (D653.addr (by omega)) rfl (by omega) ?_
             exact dz rfl hW
            · exact pzf Try.underlying77 rfl Try.sizeOf3 (0 + k2 * 2 + 0) rfl rfl rfl rfl rfl fun _ _ _ h => h
            ·
             intro D ρ w655 hcD hnD hdD hW
             have zhW := hW.size
             refine ⟨_, kf_fr [189], fun Lr => ?_⟩
             have D658 := (((((hsM.keep u391 (fun _ h => h)).keep u401 (fun _ h => h)).keep u598 (fun _ h => h)).keep u633 (fun _ h => h)).keep hW (fun _ h => h))
             refine t_load Try.isAgg3 rfl rfl rfl ((D658.at_ k2 (by omega)) 0 _ rfl) ?_
             exact dz rfl hW
            · exact pz rfl rfl rfl rfl fun _ _ _ h => h
            · exact pz rfl rfl rfl rfl fun _ _ _ h => h
            ·
             intro D ρ w659 hcD hnD hdD hW
             have zhW := hW.size
             refine ⟨_, kf_fr [191, 192], fun Lr => ?_⟩
             have D662 := (((((hsM.keep u391 (fun _ h => h)).keep u401 (fun _ h => h)).keep u598 (fun _ h => h)).keep u633 (fun _ h => h)).keep hW (fun _ h => h))
             have i663 : k2 < M.length := (by omega)
             refine t_index (j := k2) Try.underlying73 Try.sizeOf77 rfl rfl rfl rfl (D662.addr (by omega)) rfl (by omega) ?_
             exact dz rfl hW
            · exact pzf Try.underlying77 rfl Try.sizeOf3 (0 + k2 * 2 + 1) rfl rfl rfl rfl rfl fun _ _ _ h => h
            ·
             intro D ρ w664 hcD hnD hdD hW
             have zhW := hW.size
             refine ⟨_, kf_fr [194], fun Lr => ?_⟩
             have D667 := (((((hsM.keep u391 (fun _ h => h)).keep u401 (fun _ h => h)).keep u598 (fun _ h => h)).keep u633 (fun _ h => h)).keep hW (fun _ h => h))
             refine t_load Try.isAgg3 rfl rfl rfl ((D667.at_ k2 (by omega)) 1 _ rfl) ?_
             exact dz rfl hW
            · exact fun D ρ w _ _ _ hW => ⟨[(190, .int .i64 ((nth M k2).lo)), (195, .int .i64 ((nth M k2).hi))], ⟨fi 4 rfl rfl rfl, fi 9 rfl rfl rfl, trivial⟩, fun Lr => t_build (ps := [(0, .int .i64 ((nth M k2).lo)), (1, .int .i64 ((nth M k2).hi))]) (v := .agg #[.int .i64 ((nth M k2).lo), .int .i64 ((nth M k2).hi)]) rfl rfl ⟨rfl, rfl⟩ (fun w => by kernel_rfl) (dz rfl hW)⟩
            · exact pz rfl rfl rfl rfl fun _ _ _ h => h
            ·
             intro D ρ w668 hcD hnD hdD hW
             have zhW := hW.size
             refine ⟨_, kf_fr [196, 197], fun Lr => ?_⟩
             refine t_idxv (cs := [.int .i64 ((nth M k2).lo), .int .i64 ((nth M k2).hi)]) 1 Try.underlying104 Try.isAgg3 Try.sizeOf3 rfl rfl rfl rfl rfl (by decide) rfl ?_
             exact dz rfl hW
            · exact pz rfl rfl rfl rfl fun _ _ _ h => h
            · exact pz rfl rfl rfl rfl fun _ _ _ h => h
            intro ρ w671 hW
            have u672 : Upd (fun _ => False) w632 w671 := hW
            have zu672 := u672.size
            refine QK.weak [(3, .slice ao3 us.length c3), (4, .slice ao4 tr.length c4), (8, .slice (some ⟨gM, 0, none⟩) us.length us.length), (11, .int .i64 (k2 : Int)), (12, .int .i64 1), (13, .int .i64 ((nth M k2).hi)), (14, .int .i64 0)] ⟨rfl, rfl, rfl, rfl, rfl, rfl, rfl, trivial⟩ (hK646 _ _ (c_seq fun K674 hK674 => (c_seq fun K675 hK675 => (c_region (t_move rfl rfl rfl (t_cmp rfl rfl rfl rfl rfl (t_nil' (hK675 _ _ (c_condp rfl (fun g200 => ?_) (fun g200 => ?_))))))))))
            ·
             refine WC.weak [(3, .slice ao3 us.length c3), (4, .slice ao4 tr.length c4), (8, .slice (some ⟨gM, 0, none⟩) us.length us.length), (11, .int .i64 (k2 : Int)), (12, .int .i64 1), (13, .int .i64 ((nth M k2).hi))] ⟨rfl, rfl, rfl, rfl, rfl, rfl, trivial⟩ (c_drawn follows 16 [some (201, some (.slice (some ⟨gM, 0, none⟩) us.length us.length)), some (202, some (.int .i64 (k2 : Int))), some (203, some (.int .i64 ((k2 : Int) - 1))), some (204, some (.pointer (some ⟨gM, 0 + (k2 - 1) * 2, none⟩))), some (205, some (.pointer (some ⟨gM, 0 + (k2 - 1) * 2 + 0, none⟩))), some (206, some (.int .i64 ((nth M (k2 - 1)).lo))), some (207, some (.slice (some ⟨gM, 0, none⟩) us.length us.length)), some (208, some (.int .i64 (k2 : Int))), some (209, some (.int .i64 ((k2 : Int) - 1))), some (210, some (.pointer (some ⟨gM, 0 + (k2 - 1) * 2, none⟩))), some (211, some (.pointer (some ⟨gM, 0 + (k2 - 1) * 2 + 1, none⟩))), some (212, some (.int .i64 ((nth M (k2 - 1)).hi))), some (213, some (.agg #[.int .i64 ((nth M (k2 - 1)).lo), .int .i64 ((nth M (k2 - 1)).hi)])), some (214, some (.int .i64 1)), some (215, some (.int .i64 ((nth M (k2 - 1)).hi))), some (14, some (.int .i64 ((nth M (k2 - 1)).hi)))] [[],[],[1],[0,2],[3],[4],[],[],[7],[6,8],[9],[10],[5,11],[],[12,13],[14,0,1,2,3,4,5,6,7,8,9,10,11,12,13,14]] (fun _ _ w => Upd (fun _ => False) w671 w) rfl rfl rfl (by kernel_rfl) (by kernel_rfl) (Upd.drew _).to ⟨?_, ?_, ?_, ?_, ?_, ?_, ?_, ?_, ?_, ?_, ?_, ?_, ?_, ?_, ?_, ?_, trivial⟩ ?_)
             · exact pz rfl rfl rfl rfl fun _ _ _ h => h
             · exact pz rfl rfl rfl rfl fun _ _ _ h => h
             ·
              intro D ρ w679 hcD hnD hdD hW
              have zhW := hW.size
              refine ⟨_, kf_fr [202], fun Lr => ?_⟩
              refine t_ari rfl rfl rfl rfl rfl (by omega) ?_
              exact dz rfl hW
             ·
              intro D ρ w682 hcD hnD hdD hW
              have zhW := hW.size
              refine ⟨_, kf_fr [201, 203], fun Lr => ?_⟩
              have D685 := ((((((hsM.keep u391 (fun _ h => h)).keep u401 (fun _ h => h)).keep u598 (fun _ h => h)).keep u633 (fun _ h => h)).keep u672 (fun _ h => h)).keep hW (fun _ h => h))
              have i686 : (k2 - 1) < M.length := (by omega)
              refine t_index (j := (k2 - 1)) Try.underlying73 Try.sizeOf77 rfl rfl rfl rfl (D685.addr (by omega)) (by omega) (by omega) ?_
              exact dz rfl hW
             · exact pzf Try.underlying77 rfl Try.sizeOf3 (0 + (k2 - 1) * 2 + 0) rfl rfl rfl rfl rfl fun _ _ _ h => h
             ·
              intro D ρ w687 hcD hnD hdD hW
              have zhW := hW.size
              refine ⟨_, kf_fr [205], fun Lr => ?_⟩
              have D690 := ((((((hsM.keep u391 (fun _ h => h)).keep u401 (fun _ h => h)).keep u598 (fun _ h => h)).keep u633 (fun _ h => h)).keep u672 (fun _ h => h)).keep hW (fun _ h => h))
              refine t_load Try.isAgg3 rfl rfl rfl ((D690.at_ (k2 - 1) (by omega)) 0 _ rfl) ?_
              exact dz rfl hW
             · exact pz rfl rfl rfl rfl fun _ _ _ h => h
             · exact pz rfl rfl rfl rfl fun _ _ _ h => h
             ·
              intro D ρ w691 hcD hnD hdD hW
              have zhW := hW.size
              refine ⟨_, kf_fr [208], fun Lr => ?_⟩
              refine t_ari rfl rfl rfl rfl rfl (by omega) ?_
              exact dz rfl hW
             ·
              intro D ρ w694 hcD hnD hdD hW
              have zhW := hW.size
              refine ⟨_, kf_fr [207, 209], fun Lr => ?_⟩
              have D697 := ((((((hsM.keep u391 (fun _ h => h)).keep u401 (fun _ h => h)).keep u598 (fun _ h => h)).keep u633 (fun _ h => h)).keep u672 (fun _ h => h)).keep hW (fun _ h => h))
              have i698 : (k2 - 1) < M.length := (by omega)
              refine t_index (j := (k2 - 1)) Try.underlying73 Try.sizeOf77 rfl rfl rfl rfl (D697.addr (by omega)) (by omega) (by omega) ?_
              exact dz rfl hW
             · exact pzf Try.underlying77 rfl Try.sizeOf3 (0 + (k2 - 1) * 2 + 1) rfl rfl rfl rfl rfl fun _ _ _ h => h
             ·
              intro D ρ w699 hcD hnD hdD hW
              have zhW := hW.size
              refine ⟨_, kf_fr [211], fun Lr => ?_⟩
              have D702 := ((((((hsM.keep u391 (fun _ h => h)).keep u401 (fun _ h => h)).keep u598 (fun _ h => h)).keep u633 (fun _ h => h)).keep u672 (fun _ h => h)).keep hW (fun _ h => h))
              refine t_load Try.isAgg3 rfl rfl rfl ((D702.at_ (k2 - 1) (by omega)) 1 _ rfl) ?_
              exact dz rfl hW
             · exact fun D ρ w _ _ _ hW => ⟨[(206, .int .i64 ((nth M (k2 - 1)).lo)), (212, .int .i64 ((nth M (k2 - 1)).hi))], ⟨fi 5 rfl rfl rfl, fi 11 rfl rfl rfl, trivial⟩, fun Lr => t_build (ps := [(0, .int .i64 ((nth M (k2 - 1)).lo)), (1, .int .i64 ((nth M (k2 - 1)).hi))]) (v := .agg #[.int .i64 ((nth M (k2 - 1)).lo), .int .i64 ((nth M (k2 - 1)).hi)]) rfl rfl ⟨rfl, rfl⟩ (fun w => by kernel_rfl) (dz rfl hW)⟩
             · exact pz rfl rfl rfl rfl fun _ _ _ h => h
             ·
              intro D ρ w703 hcD hnD hdD hW
              have zhW := hW.size
              refine ⟨_, kf_fr [213, 214], fun Lr => ?_⟩
              refine t_idxv (cs := [.int .i64 ((nth M (k2 - 1)).lo), .int .i64 ((nth M (k2 - 1)).hi)]) 1 Try.underlying104 Try.isAgg3 Try.sizeOf3 rfl rfl rfl rfl rfl (by decide) rfl ?_
              exact dz rfl hW
             · exact pz rfl rfl rfl rfl fun _ _ _ h => h
             intro ρ w706 hW
             have u707 : Upd (fun _ => False) w671 w706 := hW
             have zu707 := u707.size
             refine QK.weak [(3, .slice ao3 us.length c3), (4, .slice ao4 tr.length c4), (8, .slice (some ⟨gM, 0, none⟩) us.length us.length), (11, .int .i64 (k2 : Int)), (12, .int .i64 1), (13, .int .i64 ((nth M k2).hi)), (14, .int .i64 ((nth M (k2 - 1)).hi))] ⟨rfl, rfl, rfl, rfl, rfl, rfl, rfl, trivial⟩ (hK674 _ _ (c_seq fun K709 hK709 => (c_region (t_move rfl rfl rfl (t_move rfl rfl rfl ?_)))))
             have D710 := ((D636.keep u672 (fun _ h => h)).keep u707 (fun _ h => h))
             have i711 : k2 < us.length := (by omega)
             refine t_index (j := k2) Try.underlying72 Try.sizeOf79 rfl rfl rfl rfl ((D710.sl (fun _ => rfl)).addr (by omega)) rfl i711 (t_field Try.underlying79 rfl Try.sizeOf3 (0 + k2 * 4 + 0) rfl rfl rfl rfl (t_load Try.isAgg3 rfl rfl rfl (((D710.sl (fun _ => rfl)).at_ k2 (by omega)) 0 _ rfl) (t_move rfl rfl rfl (t_ari rfl rfl rfl rfl rfl (by omega) (t_assign rfl rfl rfl (t_nil' (hK709 _ _ (c_seq fun K712 hK712 => (c_region (t_move rfl rfl rfl (t_move rfl rfl rfl (t_move rfl rfl rfl ?_))))))))))))
             have i713 : k2 < us.length := (by omega)
             refine t_index (j := k2) Try.underlying72 Try.sizeOf79 rfl rfl rfl rfl ((D710.sl (fun _ => rfl)).addr (by omega)) rfl i713 (t_field Try.underlying79 rfl Try.sizeOf77 (0 + k2 * 4 + 1) rfl rfl rfl rfl (t_field Try.underlying77 rfl Try.sizeOf3 (0 + k2 * 4 + 1 + 0) rfl rfl rfl rfl (t_load Try.isAgg3 rfl rfl rfl (((D710.sl (fun _ => rfl)).at_ k2 (by omega)) 1 _ rfl) (t_cmp rfl rfl rfl rfl rfl (t_move rfl rfl rfl (t_splitp 231 rfl (fun g231 => ?_) (fun g231 => ?_)))))))
             ·
              exact absurd g231 (by omega)
             ·
              refine t_move rfl rfl rfl (t_move rfl rfl rfl (t_move rfl rfl rfl ?_))
              have i714 : k2 < us.length := (by omega)
              refine t_index (j := k2) Try.underlying72 Try.sizeOf79 rfl rfl rfl rfl ((D710.sl (fun _ => rfl)).addr (by omega)) rfl i714 (t_field Try.underlying79 rfl Try.sizeOf77 (0 + k2 * 4 + 1) rfl rfl rfl rfl (t_field Try.underlying77 rfl Try.sizeOf3 (0 + k2 * 4 + 1 + 1) rfl rfl rfl rfl (t_load Try.isAgg3 rfl rfl rfl (((D710.sl (fun _ => rfl)).at_ k2 (by omega)) 2 _ rfl) (t_cmp rfl rfl rfl rfl rfl (t_pick_f rfl rfl rfl rfl (t_move rfl rfl rfl (t_splitp 241 rfl (fun g241 => ?_) (fun g241 => ?_))))))))
              ·
               exact absurd g241 (by omega)
              ·
               refine t_move rfl rfl rfl (t_move rfl rfl rfl (t_cmp rfl rfl rfl rfl rfl (t_pick_f rfl rfl rfl rfl (t_move rfl rfl rfl (t_splitp 246 rfl (fun g246 => ?_) (fun g246 => ?_))))))
               ·
                exact absurd g246 (by omega)
               ·
                refine t_move rfl rfl rfl (t_move rfl rfl rfl ?_)
                have i715 : k2 < us.length := (by omega)
                refine t_index (j := k2) Try.underlying72 Try.sizeOf79 rfl rfl rfl rfl ((D710.sl (fun _ => rfl)).addr (by omega)) rfl i715 (t_field Try.underlying79 rfl Try.sizeOf4 (0 + k2 * 4 + 3) rfl rfl rfl rfl (t_load Try.isAgg4 rfl rfl rfl (((D710.sl (fun _ => rfl)).at_ k2 (by omega)) 3 _ rfl) (t_move rfl rfl rfl (t_split 252 rfl (fun g252 => ?_) (fun g252 => ?_)))))
                ·
                 refine t_move rfl rfl rfl (t_move rfl rfl rfl (t_cmp rfl rfl rfl rfl rfl (t_pick_t rfl rfl rfl rfl (t_pick_f rfl rfl rfl rfl (t_nil' (hK712 _ _ (c_condp rfl (fun g257 => ?_) (fun g257 => ?_))))))))
                 ·
                  exact absurd g257 (by omega)
                 ·
                  refine c_skip (hK645 _ _ (c_region (t_move rfl rfl rfl (t_ari rfl rfl rfl rfl rfl (by omega) (t_samehd (v := .int .i64 2) rfl (t_assign rfl rfl rfl (t_nil' (hK642 _ _ (WR.weak [(3, .slice ao3 us.length c3), (4, .slice ao4 tr.length c4), (8, .slice (some ⟨gM, 0, none⟩) us.length us.length), (11, .int .i64 (k2 : Int)), (12, .int .i64 2)] ⟨rfl, rfl, rfl, rfl, rfl, trivial⟩ (r_round fun K716 hK716 => (c_seq fun K717 hK717 => (c_seq fun K718 hK718 => (c_region (t_move rfl rfl rfl (t_cmp rfl rfl rfl rfl rfl (t_samehd (v := .bool false) rfl (t_nil' (hK718 _ _ (c_cond_f rfl (c_exit (hK396 _ _ (c_region (t_move rfl rfl rfl ?_)))))))))))))))))))))))
                  refine t_ari rfl rfl rfl rfl rfl (by omega) (t_assign rfl rfl rfl (t_nil' ?_))
                  exact hK389 (k2 + 1) _ _ (by omega) ⟨rfl, rfl, rfl, rfl, trivial⟩ ⟨(((((u391.next u401 (fun _ _ h => h.elim)).next u598 (fun _ _ h => h.elim)).next u633 (fun _ _ h => h.elim)).next u672 (fun _ _ h => h.elim)).next u707 (fun _ _ h => h.elim)), (by omega)⟩
                ·
                 rw [g252] at hsl; cases hsl
            ·
             exfalso; omega
          ·
           have hsl := g252
           refine t_skip rfl rfl rfl (t_skip rfl rfl rfl (t_skip rfl rfl rfl (t_pick_f rfl rfl rfl rfl (t_pick_f rfl rfl rfl rfl (t_nil' (hK638 _ _ (c_cond_f rfl (c_skip (hK571 _ _ (c_region (t_move rfl rfl rfl (t_ari rfl rfl rfl rfl rfl (by omega) (t_samehd (v := .int .i64 1) rfl (t_assign rfl rfl rfl (t_nil' (hK568 _ _ (WR.weak [(3, .slice ao3 us.length c3), (4, .slice ao4 tr.length c4), (8, .slice (some ⟨gM, 0, none⟩) us.length us.length), (11, .int .i64 (k2 : Int)), (12, .int .i64 1)] ⟨rfl, rfl, rfl, rfl, rfl, trivial⟩ (r_round fun K719 hK719 => (c_seq fun K720 hK720 => (c_seq fun K721 hK721 => (c_region (t_move rfl rfl rfl (t_cmp rfl rfl rfl rfl rfl ?_)))))))))))))))))))))))
           refine t_samehd (v := .bool true) rfl (t_nil' (hK721 _ _ (c_cond_t rfl (c_skip (hK720 _ _ (c_seq fun K722 hK722 => (c_block (c_seq fun K723 hK723 => (WC.weak [(3, .slice ao3 us.length c3), (4, .slice ao4 tr.length c4), (8, .slice (some ⟨gM, 0, none⟩) us.length us.length), (11, .int .i64 (k2 : Int)), (12, .int .i64 1)] ⟨rfl, rfl, rfl, rfl, rfl, trivial⟩ (c_drawn follows 15 [some (186, some (.slice (some ⟨gM, 0, none⟩) us.length us.length)), some (187, some (.int .i64 (k2 : Int))), some (188, some (.pointer (some ⟨gM, 0 + k2 * 2, none⟩))), some (189, some (.pointer (some ⟨gM, 0 + k2 * 2 + 0, none⟩))), some (190, some (.int .i64 ((nth M k2).lo))), some (191, some (.slice (some ⟨gM, 0, none⟩) us.length us.length)), some (192, some (.int .i64 (k2 : Int))), some (193, some (.pointer (some ⟨gM, 0 + k2 * 2, none⟩))), some (194, some (.pointer (some ⟨gM, 0 + k2 * 2 + 1, none⟩))), some (195, some (.int .i64 ((nth M k2).hi))), some (196, some (.agg #[.int .i64 ((nth M k2).lo), .int .i64 ((nth M k2).hi)])), some (197, some (.int .i64 1)), some (198, some (.int .i64 ((nth M k2).hi))), some (13, some (.int .i64 ((nth M k2).hi))), some (14, some (.int .i64 0))] [[],[],[0,1],[2],[3],[],[],[5,6],[7],[8],[4,9],[],[10,11],[12,0,1,2,3,4,5,6,7,8,9,10,11,12],[13,0,1,2,3,4,5,6,7,8,9,10,11,12,13]] (fun _ _ w => Upd (fun _ => False) w632 w) rfl rfl rfl (by kernel_rfl) (by kernel_rfl) (Upd.drew _).to ⟨?_, ?_, ?_, ?_, ?_, ?_, ?_, ?_, ?_, ?_, ?_, ?_, ?_, ?_, ?_, trivial⟩ ?_))))))))))
           · exact pz rfl rfl rfl rfl fun _ _ _ h => h
           · exact pz rfl rfl rfl rfl fun _ _ _ h => h
           ·
            intro D ρ w727 hcD hnD hdD hW
            have zhW := hW.size
            refine ⟨_, kf_fr [186, 187], fun Lr => ?_⟩
            have D730 := (((((hsM.keep u391 (fun _ h => h)).keep u401 (fun _ h => h)).keep u598 (fun _ h => h)).keep u633 (fun _ h => h)).keep hW (fun _ h => h))
            have i731 : k2 < M.length := (by omega)
            refine t_index (j := k2) Try.underlying73 Try.sizeOf77 rfl rfl rfl rfl (D730.addr (by omega)) rfl (by omega) ?_
            exact dz rfl hW
           · exact pzf Try.underlying77 rfl Try.sizeOf3 (0 + k2 * 2 + 0) rfl rfl rfl rfl rfl fun _ _ _ h => h
           ·
            intro D ρ w732 hcD hnD hdD hW
            have zhW := hW.size
            refine ⟨_, kf_fr [189], fun Lr => ?_⟩
            have D735 := (((((hsM.keep u391 (fun _ h => h)).keep u401 (fun _ h => h)).keep u598 (fun _ h => h)).keep u633 (fun _ h => h)).keep hW (fun _ h => h))
            refine t_load Try.isAgg3 rfl rfl rfl ((D735.at_ k2 (by omega)) 0 _ rfl) ?_
            exact dz rfl hW
           · exact pz rfl rfl rfl rfl fun _ _ _ h => h
           · exact pz rfl rfl rfl rfl fun _ _ _ h => h
           ·
            intro D ρ w736 hcD hnD hdD hW
            have zhW := hW.size
            refine ⟨_, kf_fr [191, 192], fun Lr => ?_⟩
            have D739 := (((((hsM.keep u391 (fun _ h => h)).keep u401 (fun _ h => h)).keep u598 (fun _ h => h)).keep u633 (fun _ h => h)).keep hW (fun _ h => h))
            have i740 : k2 < M.length := (by omega)
            refine t_index (j := k2) Try.underlying73 Try.sizeOf77 rfl rfl rfl rfl (D739.addr (by omega)) rfl (by omega) ?_
            exact dz rfl hW
           · exact pzf Try.underlying77 rfl Try.sizeOf3 (0 + k2 * 2 + 1) rfl rfl rfl rfl rfl fun _ _ _ h => h
           ·
            intro D ρ w741 hcD hnD hdD hW
            have zhW := hW.size
            refine ⟨_, kf_fr [194], fun Lr => ?_⟩
            have D744 := (((((hsM.keep u391 (fun _ h => h)).keep u401 (fun _ h => h)).keep u598 (fun _ h => h)).keep u633 (fun _ h => h)).keep hW (fun _ h => h))
            refine t_load Try.isAgg3 rfl rfl rfl ((D744.at_ k2 (by omega)) 1 _ rfl) ?_
            exact dz rfl hW
           · exact fun D ρ w _ _ _ hW => ⟨[(190, .int .i64 ((nth M k2).lo)), (195, .int .i64 ((nth M k2).hi))], ⟨fi 4 rfl rfl rfl, fi 9 rfl rfl rfl, trivial⟩, fun Lr => t_build (ps := [(0, .int .i64 ((nth M k2).lo)), (1, .int .i64 ((nth M k2).hi))]) (v := .agg #[.int .i64 ((nth M k2).lo), .int .i64 ((nth M k2).hi)]) rfl rfl ⟨rfl, rfl⟩ (fun w => by kernel_rfl) (dz rfl hW)⟩
           · exact pz rfl rfl rfl rfl fun _ _ _ h => h
           ·
            intro D ρ w745 hcD hnD hdD hW
            have zhW := hW.size
            refine ⟨_, kf_fr [196, 197], fun Lr => ?_⟩
            refine t_idxv (cs := [.int .i64 ((nth M k2).lo), .int .i64 ((nth M k2).hi)]) 1 Try.underlying104 Try.isAgg3 Try.sizeOf3 rfl rfl rfl rfl rfl (by decide) rfl ?_
            exact dz rfl hW
           · exact pz rfl rfl rfl rfl fun _ _ _ h => h
           · exact pz rfl rfl rfl rfl fun _ _ _ h => h
           intro ρ w748 hW
           have u749 : Upd (fun _ => False) w632 w748 := hW
           have zu749 := u749.size
           refine QK.weak [(3, .slice ao3 us.length c3), (4, .slice ao4 tr.length c4), (8, .slice (some ⟨gM, 0, none⟩) us.length us.length), (11, .int .i64 (k2 : Int)), (12, .int .i64 1), (13, .int .i64 ((nth M k2).hi)), (14, .int .i64 0)] ⟨rfl, rfl, rfl, rfl, rfl, rfl, rfl, trivial⟩ (hK723 _ _ (c_seq fun K751 hK751 => (c_seq fun K752 hK752 => (c_region (t_move rfl rfl rfl (t_cmp rfl rfl rfl rfl rfl (t_nil' (hK752 _ _ (c_condp rfl (fun g200 => ?_) (fun g200 => ?_))))))))))
           ·
            refine WC.weak [(3, .slice ao3 us.length c3), (4, .slice ao4 tr.length c4), (8, .slice (some ⟨gM, 0, none⟩) us.length us.length), (11, .int .i64 (k2 : Int)), (12, .int .i64 1), (13, .int .i64 ((nth M k2).hi))] ⟨rfl, rfl, rfl, rfl, rfl, rfl, trivial⟩ (c_drawn follows 16 [some (201, some (.slice (some ⟨gM, 0, none⟩) us.length us.length)), some (202, some (.int .i64 (k2 : Int))), some (203, some (.int .i64 ((k2 : Int) - 1))), some (204, some (.pointer (some ⟨gM, 0 + (k2 - 1) * 2, none⟩))), some (205, some (.pointer (some ⟨gM, 0 + (k2 - 1) * 2 + 0, none⟩))), some (206, some (.int .i64 ((nth M (k2 - 1)).lo))), some (207, some (.slice (some ⟨gM, 0, none⟩) us.length us.length)), some (208, some (.int .i64 (k2 : Int))), some (209, some (.int .i64 ((k2 : Int) - 1))), some (210, some (.pointer (some ⟨gM, 0 + (k2 - 1) * 2, none⟩))), some (211, some (.pointer (some ⟨gM, 0 + (k2 - 1) * 2 + 1, none⟩))), some (212, some (.int .i64 ((nth M (k2 - 1)).hi))), some (213, some (.agg #[.int .i64 ((nth M (k2 - 1)).lo), .int .i64 ((nth M (k2 - 1)).hi)])), some (214, some (.int .i64 1)), some (215, some (.int .i64 ((nth M (k2 - 1)).hi))), some (14, some (.int .i64 ((nth M (k2 - 1)).hi)))] [[],[],[1],[0,2],[3],[4],[],[],[7],[6,8],[9],[10],[5,11],[],[12,13],[14,0,1,2,3,4,5,6,7,8,9,10,11,12,13,14]] (fun _ _ w => Upd (fun _ => False) w748 w) rfl rfl rfl (by kernel_rfl) (by kernel_rfl) (Upd.drew _).to ⟨?_, ?_, ?_, ?_, ?_, ?_, ?_, ?_, ?_, ?_, ?_, ?_, ?_, ?_, ?_, ?_, trivial⟩ ?_)
            · exact pz rfl rfl rfl rfl fun _ _ _ h => h
            · exact pz rfl rfl rfl rfl fun _ _ _ h => h
            ·
             intro D ρ w756 hcD hnD hdD hW
             have zhW := hW.size
             refine ⟨_, kf_fr [202], fun Lr => ?_⟩
             refine t_ari rfl rfl rfl rfl rfl (by omega) ?_
             exact dz rfl hW
            ·
             intro D ρ w759 hcD hnD hdD hW
             have zhW := hW.size
             refine ⟨_, kf_fr [201, 203], fun Lr => ?_⟩
             have D762 := ((((((hsM.keep u391 (fun _ h => h)).keep u401 (fun _ h => h)).keep u598 (fun _ h => h)).keep u633 (fun _ h => h)).keep u749 (fun _ h => h)).keep hW (fun _ h => h))
             have i763 : (k2 - 1) < M.length := (by omega)
             refine t_index (j := (k2 - 1)) Try.underlying73 Try.sizeOf77 rfl rfl rfl rfl (D762.addr (by omega)) (by omega) (by omega) ?_
             exact dz rfl hW
            · exact pzf Try.underlying77 rfl Try.sizeOf3 (0 + (k2 - 1) * 2 + 0) rfl rfl rfl rfl rfl fun _ _ _ h => h
            ·
             intro D ρ w764 hcD hnD hdD hW
             have zhW := hW.size
             refine ⟨_, kf_fr [205], fun Lr => ?_⟩
             have D767 := ((((((hsM.keep u391 (fun _ h => h)).keep u401 (fun _ h => h)).keep u598 (fun _ h => h)).keep u633 (fun _ h => h)).keep u749 (fun _ h => h)).keep hW (fun _ h => h))
             refine t_load Try.isAgg3 rfl rfl rfl ((D767.at_ (k2 - 1) (by omega)) 0 _ rfl) ?_
             exact dz rfl hW
            · exact pz rfl rfl rfl rfl fun _ _ _ h => h
            · exact pz rfl rfl rfl rfl fun _ _ _ h => h
            ·
             intro D ρ w768 hcD hnD hdD hW
             have zhW := hW.size
             refine ⟨_, kf_fr [208], fun Lr => ?_⟩
             refine t_ari rfl rfl rfl rfl rfl (by omega) ?_
             exact dz rfl hW
            ·
             intro D ρ w771 hcD hnD hdD hW
             have zhW := hW.size
             refine ⟨_, kf_fr [207, 209], fun Lr => ?_⟩
             have D774 := ((((((hsM.keep u391 (fun _ h => h)).keep u401 (fun _ h => h)).keep u598 (fun _ h => h)).keep u633 (fun _ h => h)).keep u749 (fun _ h => h)).keep hW (fun _ h => h))
             have i775 : (k2 - 1) < M.length := (by omega)
             refine t_index (j := (k2 - 1)) Try.underlying73 Try.sizeOf77 rfl rfl rfl rfl (D774.addr (by omega)) (by omega) (by omega) ?_
             exact dz rfl hW
            · exact pzf Try.underlying77 rfl Try.sizeOf3 (0 + (k2 - 1) * 2 + 1) rfl rfl rfl rfl rfl fun _ _ _ h => h
            ·
             intro D ρ w776 hcD hnD hdD hW
             have zhW := hW.size
             refine ⟨_, kf_fr [211], fun Lr => ?_⟩
             have D779 := ((((((hsM.keep u391 (fun _ h => h)).keep u401 (fun _ h => h)).keep u598 (fun _ h => h)).keep u633 (fun _ h => h)).keep u749 (fun _ h => h)).keep hW (fun _ h => h))
             refine t_load Try.isAgg3 rfl rfl rfl ((D779.at_ (k2 - 1) (by omega)) 1 _ rfl) ?_
             exact dz rfl hW
            · exact fun D ρ w _ _ _ hW => ⟨[(206, .int .i64 ((nth M (k2 - 1)).lo)), (212, .int .i64 ((nth M (k2 - 1)).hi))], ⟨fi 5 rfl rfl rfl, fi 11 rfl rfl rfl, trivial⟩, fun Lr => t_build (ps := [(0, .int .i64 ((nth M (k2 - 1)).lo)), (1, .int .i64 ((nth M (k2 - 1)).hi))]) (v := .agg #[.int .i64 ((nth M (k2 - 1)).lo), .int .i64 ((nth M (k2 - 1)).hi)]) rfl rfl ⟨rfl, rfl⟩ (fun w => by kernel_rfl) (dz rfl hW)⟩
            · exact pz rfl rfl rfl rfl fun _ _ _ h => h
            ·
             intro D ρ w780 hcD hnD hdD hW
             have zhW := hW.size
             refine ⟨_, kf_fr [213, 214], fun Lr => ?_⟩
             refine t_idxv (cs := [.int .i64 ((nth M (k2 - 1)).lo), .int .i64 ((nth M (k2 - 1)).hi)]) 1 Try.underlying104 Try.isAgg3 Try.sizeOf3 rfl rfl rfl rfl rfl (by decide) rfl ?_
             exact dz rfl hW
            · exact pz rfl rfl rfl rfl fun _ _ _ h => h
            intro ρ w783 hW
            have u784 : Upd (fun _ => False) w748 w783 := hW
            have zu784 := u784.size
            refine QK.weak [(3, .slice ao3 us.length c3), (4, .slice ao4 tr.length c4), (8, .slice (some ⟨gM, 0, none⟩) us.length us.length), (11, .int .i64 (k2 : Int)), (12, .int .i64 1), (13, .int .i64 ((nth M k2).hi)), (14, .int .i64 ((nth M (k2 - 1)).hi))] ⟨rfl, rfl, rfl, rfl, rfl, rfl, rfl, trivial⟩ (hK751 _ _ (c_seq fun K786 hK786 => (c_region (t_move rfl rfl rfl (t_move rfl rfl rfl ?_)))))
            have D787 := ((D636.keep u749 (fun _ h => h)).keep u784 (fun _ h => h))
            have i788 : k2 < us.length := (by omega)
            refine t_index (j := k2) Try.underlying72 Try.sizeOf79 rfl rfl rfl rfl ((D787.sl (fun _ => rfl)).addr (by omega)) rfl i788 (t_field Try.underlying79 rfl Try.sizeOf3 (0 + k2 * 4 + 0) rfl rfl rfl rfl (t_load Try.isAgg3 rfl rfl rfl (((D787.sl (fun _ => rfl)).at_ k2 (by omega)) 0 _ rfl) (t_move rfl rfl rfl (t_ari rfl rfl rfl rfl rfl (by omega) (t_assign rfl rfl rfl (t_nil' (hK786 _ _ (c_seq fun K789 hK789 => (c_region (t_move rfl rfl rfl (t_move rfl rfl rfl (t_move rfl rfl rfl ?_))))))))))))
            have i790 : k2 < us.length := (by omega)
            refine t_index (j := k2) Try.underlying72 Try.sizeOf79 rfl rfl rfl rfl ((D787.sl (fun _ => rfl)).addr (by omega)) rfl i790 (t_field Try.underlying79 rfl Try.sizeOf77 (0 + k2 * 4 + 1) rfl rfl rfl rfl (t_field Try.underlying77 rfl Try.sizeOf3 (0 + k2 * 4 + 1 + 0) rfl rfl rfl rfl (t_load Try.isAgg3 rfl rfl rfl (((D787.sl (fun _ => rfl)).at_ k2 (by omega)) 1 _ rfl) (t_cmp rfl rfl rfl rfl rfl (t_move rfl rfl rfl (t_splitp 231 rfl (fun g231 => ?_) (fun g231 => ?_)))))))
            ·
             exact absurd g231 (by omega)
            ·
             refine t_move rfl rfl rfl (t_move rfl rfl rfl (t_move rfl rfl rfl ?_))
             have i791 : k2 < us.length := (by omega)
             refine t_index (j := k2) Try.underlying72 Try.sizeOf79 rfl rfl rfl rfl ((D787.sl (fun _ => rfl)).addr (by omega)) rfl i791 (t_field Try.underlying79 rfl Try.sizeOf77 (0 + k2 * 4 + 1) rfl rfl rfl rfl (t_field Try.underlying77 rfl Try.sizeOf3 (0 + k2 * 4 + 1 + 1) rfl rfl rfl rfl (t_load Try.isAgg3 rfl rfl rfl (((D787.sl (fun _ => rfl)).at_ k2 (by omega)) 2 _ rfl) (t_cmp rfl rfl rfl rfl rfl (t_pick_f rfl rfl rfl rfl (t_move rfl rfl rfl (t_splitp 241 rfl (fun g241 => ?_) (fun g241 => ?_))))))))
             ·
              exact absurd g241 (by omega)
             ·
              refine t_move rfl rfl rfl (t_move rfl rfl rfl (t_cmp rfl rfl rfl rfl rfl (t_pick_f rfl rfl rfl rfl (t_move rfl rfl rfl (t_splitp 246 rfl (fun g246 => ?_) (fun g246 => ?_))))))
              ·
               exact absurd g246 (by omega)
              ·
               refine t_move rfl rfl rfl (t_move rfl rfl rfl ?_)
               have i792 : k2 < us.length := (by omega)
               refine t_index (j := k2) Try.underlying72 Try.sizeOf79 rfl rfl rfl rfl ((D787.sl (fun _ => rfl)).addr (by omega)) rfl i792 (t_field Try.underlying79 rfl Try.sizeOf4 (0 + k2 * 4 + 3) rfl rfl rfl rfl (t_load Try.isAgg4 rfl rfl rfl (((D787.sl (fun _ => rfl)).at_ k2 (by omega)) 3 _ rfl) (t_move rfl rfl rfl (t_split 252 rfl (fun g252 => ?_) (fun g252 => ?_)))))
               ·
                rw [g252] at hsl; cases hsl
               ·
                refine t_skip rfl rfl rfl (t_skip rfl rfl rfl (t_skip rfl rfl rfl (t_pick_f rfl rfl rfl rfl (t_pick_f rfl rfl rfl rfl (t_nil' (hK789 _ _ (c_cond_f rfl (c_skip (hK722 _ _ (c_region (t_move rfl rfl rfl (t_ari rfl rfl rfl rfl rfl (by omega) (t_samehd (v := .int .i64 2) rfl (t_assign rfl rfl rfl (t_nil' (hK719 _ _ (WR.weak [(3, .slice ao3 us.length c3), (4, .slice ao4 tr.length c4), (8, .slice (some ⟨gM, 0, none⟩) us.length us.length), (11, .int .i64 (k2 : Int)), (12, .int .i64 2)] ⟨rfl, rfl, rfl, rfl, rfl, trivial⟩ (r_round fun K793 hK793 => (c_seq fun K794 hK794 => (c_seq fun K795 hK795 => (c_region (t_move rfl rfl rfl (t_cmp rfl rfl rfl rfl rfl ?_)))))))))))))))))))))))
                refine t_samehd (v := .bool false) rfl (t_nil' (hK795 _ _ (c_cond_f rfl (c_exit (hK396 _ _ (c_region (t_move rfl rfl rfl (t_ari rfl rfl rfl rfl rfl (by omega) (t_assign rfl rfl rfl (t_nil' ?_))))))))))
                exact hK389 (k2 + 1) _ _ (by omega) ⟨rfl, rfl, rfl, rfl, trivial⟩ ⟨(((((u391.next u401 (fun _ _ h => h.elim)).next u598 (fun _ _ h => h.elim)).next u633 (fun _ _ h => h.elim)).next u749 (fun _ _ h => h.elim)).next u784 (fun _ _ h => h.elim)), (by omega)⟩
           ·
            exfalso; omega
      ·
       refine c_skip (hK600 _ _ (c_seq fun K796 hK796 => (c_region (t_move rfl rfl rfl (t_move rfl rfl rfl ?_)))))
       have D797 := (((((D372.keep u378 (fun hb => show ¬ ((g3 = bk367 ∧ bk367 ≤ g3)) by first | omega | assumption)).keep u382 (fun _ h => h)).keep u391 (fun _ h => h)).keep u401 (fun _ h => h)).keep u598 (fun _ h => h))
       have i798 : k2 < us.length := (by omega)
       refine t_index (j := k2) Try.underlying72 Try.sizeOf79 rfl rfl rfl rfl ((D797.sl (fun _ => rfl)).addr (by omega)) rfl i798 (t_field Try.underlying79 rfl Try.sizeOf3 (0 + k2 * 4 + 0) rfl rfl rfl rfl (t_load Try.isAgg3 rfl rfl rfl (((D797.sl (fun _ => rfl)).at_ k2 (by omega)) 0 _ rfl) (t_move rfl rfl rfl (t_ari rfl rfl rfl rfl rfl (by omega) (t_assign rfl rfl rfl (t_nil' (hK796 _ _ (c_seq fun K799 hK799 => (c_region (t_move rfl rfl rfl (t_move rfl rfl rfl (t_move rfl rfl rfl ?_))))))))))))
       have i800 : k2 < us.length := (by omega)
       refine t_index (j := k2) Try.underlying72 Try.sizeOf79 rfl rfl rfl rfl ((D797.sl (fun _ => rfl)).addr (by omega)) rfl i800 (t_field Try.underlying79 rfl Try.sizeOf77 (0 + k2 * 4 + 1) rfl rfl rfl rfl (t_field Try.underlying77 rfl Try.sizeOf3 (0 + k2 * 4 + 1 + 0) rfl rfl rfl rfl (t_load Try.isAgg3 rfl rfl rfl (((D797.sl (fun _ => rfl)).at_ k2 (by omega)) 1 _ rfl) (t_cmp rfl rfl rfl rfl rfl (t_move rfl rfl rfl (t_splitp 231 rfl (fun g231 => ?_) (fun g231 => ?_)))))))
       ·
        exact absurd g231 (by omega)
       ·
        refine t_move rfl rfl rfl (t_move rfl rfl rfl (t_move rfl rfl rfl ?_))
        have i801 : k2 < us.length := (by omega)
        refine t_index (j := k2) Try.underlying72 Try.sizeOf79 rfl rfl rfl rfl ((D797.sl (fun _ => rfl)).addr (by omega)) rfl i801 (t_field Try.underlying79 rfl Try.sizeOf77 (0 + k2 * 4 + 1) rfl rfl rfl rfl (t_field Try.underlying77 rfl Try.sizeOf3 (0 + k2 * 4 + 1 + 1) rfl rfl rfl rfl (t_load Try.isAgg3 rfl rfl rfl (((D797.sl (fun _ => rfl)).at_ k2 (by omega)) 2 _ rfl) (t_cmp rfl rfl rfl rfl rfl (t_pick_f rfl rfl rfl rfl (t_move rfl rfl rfl (t_splitp 241 rfl (fun g241 => ?_) (fun g241 => ?_))))))))
        ·
         exact absurd g241 (by omega)
        ·
         refine t_move rfl rfl rfl (t_move rfl rfl rfl (t_cmp rfl rfl rfl rfl rfl (t_pick_f rfl rfl rfl rfl (t_move rfl rfl rfl (t_splitp 246 rfl (fun g246 => ?_) (fun g246 => ?_))))))
         ·
          exact absurd g246 (by omega)
         ·
          refine t_move rfl rfl rfl (t_move rfl rfl rfl ?_)
          have i802 : k2 < us.length := (by omega)
          refine t_index (j := k2) Try.underlying72 Try.sizeOf79 rfl rfl rfl rfl ((D797.sl (fun _ => rfl)).addr (by omega)) rfl i802 (t_field Try.underlying79 rfl Try.sizeOf4 (0 + k2 * 4 + 3) rfl rfl rfl rfl (t_load Try.isAgg4 rfl rfl rfl (((D797.sl (fun _ => rfl)).at_ k2 (by omega)) 3 _ rfl) (t_move rfl rfl rfl (t_split 252 rfl (fun g252 => ?_) (fun g252 => ?_)))))
          ·
           have hsl := g252
           have hB7 := hB5 hsl
           rw [if_pos (by omega)] at hB7
           refine t_move rfl rfl rfl (t_move rfl rfl rfl (t_cmp rfl rfl rfl rfl rfl (t_pick_t rfl rfl rfl rfl (t_pick_f rfl rfl rfl rfl (t_nil' (hK799 _ _ (c_condp rfl (fun g257 => ?_) (fun g257 => ?_))))))))
           ·
            exact absurd g257 (by omega)
           ·
            refine c_skip (hK571 _ _ (c_region (t_move rfl rfl rfl (t_ari rfl rfl rfl rfl rfl (by omega) (t_samehd (v := .int .i64 1) rfl (t_assign rfl rfl rfl (t_nil' (hK568 _ _ (WR.weak [(3, .slice ao3 us.length c3), (4, .slice ao4 tr.length c4), (8, .slice (some ⟨gM, 0, none⟩) us.length us.length), (11, .int .i64 (k2 : Int)), (12, .int .i64 1)] ⟨rfl, rfl, rfl, rfl, rfl, trivial⟩ (r_round fun K803 hK803 => (c_seq fun K804 hK804 => (c_seq fun K805 hK805 => (c_region (t_move rfl rfl rfl (t_cmp rfl rfl rfl rfl rfl (t_samehd (v := .bool true) rfl (t_nil' (hK805 _ _ (c_cond_t rfl (c_skip (hK804 _ _ (c_seq fun K806 hK806 => (c_block ?_)))))))))))))))))))))))
            refine c_seq fun K807 hK807 => (WC.weak [(3, .slice ao3 us.length c3), (4, .slice ao4 tr.length c4), (8, .slice (some ⟨gM, 0, none⟩) us.length us.length), (11, .int .i64 (k2 : Int)), (12, .int .i64 1)] ⟨rfl, rfl, rfl, rfl, rfl, trivial⟩ (c_drawn follows 15 [some (186, some (.slice (some ⟨gM, 0, none⟩) us.length us.length)), some (187, some (.int .i64 (k2 : Int))), some (188, some (.pointer (some ⟨gM, 0 + k2 * 2, none⟩))), some (189, some (.pointer (some ⟨gM, 0 + k2 * 2 + 0, none⟩))), some (190, some (.int .i64 ((nth M k2).lo))), some (191, some (.slice (some ⟨gM, 0, none⟩) us.length us.length)), some (192, some (.int .i64 (k2 : Int))), some (193, some (.pointer (some ⟨gM, 0 + k2 * 2, none⟩))), some (194, some (.pointer (some ⟨gM, 0 + k2 * 2 + 1, none⟩))), some (195, some (.int .i64 ((nth M k2).hi))), some (196, some (.agg #[.int .i64 ((nth M k2).lo), .int .i64 ((nth M k2).hi)])), some (197, some (.int .i64 1)), some (198, some (.int .i64 ((nth M k2).hi))), some (13, some (.int .i64 ((nth M k2).hi))), some (14, some (.int .i64 0))] [[],[],[0,1],[2],[3],[],[],[5,6],[7],[8],[4,9],[],[10,11],[12,0,1,2,3,4,5,6,7,8,9,10,11,12],[13,0,1,2,3,4,5,6,7,8,9,10,11,12,13]] (fun _ _ w => Upd (fun _ => False) w597 w) rfl rfl rfl (by kernel_rfl) (by kernel_rfl) (Upd.drew _).to ⟨?_, ?_, ?_, ?_, ?_, ?_, ?_, ?_, ?_, ?_, ?_, ?_, ?_, ?_, ?_, trivial⟩ ?_))
            · exact pz rfl rfl rfl rfl fun _ _ _ h => h
            · exact pz rfl rfl rfl rfl fun _ _ _ h => h
            ·
             intro D ρ w811 hcD hnD hdD hW
             have zhW := hW.size
             refine ⟨_, kf_fr [186, 187], fun Lr => ?_⟩
             have D814 := ((((hsM.keep u391 (fun _ h => h)).keep u401 (fun _ h => h)).keep u598 (fun _ h => h)).keep hW (fun _ h => h))
             have i815 : k2 < M.length := (by omega)
             refine t_index (j := k2) Try.underlying73 Try.sizeOf77 rfl rfl rfl rfl (D814.addr (by omega)) rfl (by omega) ?_
             exact dz rfl hW
            · exact pzf Try.underlying77 rfl Try.sizeOf3 (0 + k2 * 2 + 0) rfl rfl rfl rfl rfl fun _ _ _ h => h
            ·
             intro D ρ w816 hcD hnD hdD hW
             have zhW := hW.size
             refine ⟨_, kf_fr [189], fun Lr => ?_⟩
             have D819 := ((((hsM.keep u391 (fun _ h => h)).keep u401 (fun _ h => h)).keep u598 (fun _ h => h)).keep hW (fun _ h => h))
             refine t_load Try.isAgg3 rfl rfl rfl ((D819.at_ k2 (by omega)) 0 _ rfl) ?_
             exact dz rfl hW
            · exact pz rfl rfl rfl rfl fun _ _ _ h => h
            · exact pz rfl rfl rfl rfl fun _ _ _ h => h
            ·
             intro D ρ w820 hcD hnD hdD hW
             have zhW := hW.size
             refine ⟨_, kf_fr [191, 192], fun Lr => ?_⟩
             have D823 := ((((hsM.keep u391 (fun _ h => h)).keep u401 (fun _ h => h)).keep u598 (fun _ h => h)).keep hW (fun _ h => h))
             have i824 : k2 < M.length := (by omega)
             refine t_index (j := k2) Try.underlying73 Try.sizeOf77 rfl rfl rfl rfl (D823.addr (by omega)) rfl (by omega) ?_
             exact dz rfl hW
            · exact pzf Try.underlying77 rfl Try.sizeOf3 (0 + k2 * 2 + 1) rfl rfl rfl rfl rfl fun _ _ _ h => h
            ·
             intro D ρ w825 hcD hnD hdD hW
             have zhW := hW.size
             refine ⟨_, kf_fr [194], fun Lr => ?_⟩
             have D828 := ((((hsM.keep u391 (fun _ h => h)).keep u401 (fun _ h => h)).keep u598 (fun _ h => h)).keep hW (fun _ h => h))
             refine t_load Try.isAgg3 rfl rfl rfl ((D828.at_ k2 (by omega)) 1 _ rfl) ?_
             exact dz rfl hW
            · exact fun D ρ w _ _ _ hW => ⟨[(190, .int .i64 ((nth M k2).lo)), (195, .int .i64 ((nth M k2).hi))], ⟨fi 4 rfl rfl rfl, fi 9 rfl rfl rfl, trivial⟩, fun Lr => t_build (ps := [(0, .int .i64 ((nth M k2).lo)), (1, .int .i64 ((nth M k2).hi))]) (v := .agg #[.int .i64 ((nth M k2).lo), .int .i64 ((nth M k2).hi)]) rfl rfl ⟨rfl, rfl⟩ (fun w => by kernel_rfl) (dz rfl hW)⟩
            · exact pz rfl rfl rfl rfl fun _ _ _ h => h
            ·
             intro D ρ w829 hcD hnD hdD hW
             have zhW := hW.size
             refine ⟨_, kf_fr [196, 197], fun Lr => ?_⟩
             refine t_idxv (cs := [.int .i64 ((nth M k2).lo), .int .i64 ((nth M k2).hi)]) 1 Try.underlying104 Try.isAgg3 Try.sizeOf3 rfl rfl rfl rfl rfl (by decide) rfl ?_
             exact dz rfl hW
            · exact pz rfl rfl rfl rfl fun _ _ _ h => h
            · exact pz rfl rfl rfl rfl fun _ _ _ h => h
            intro ρ w832 hW
            have u833 : Upd (fun _ => False) w597 w832 := hW
            have zu833 := u833.size
            refine QK.weak [(3, .slice ao3 us.length c3), (4, .slice ao4 tr.length c4), (8, .slice (some ⟨gM, 0, none⟩) us.length us.length), (11, .int .i64 (k2 : Int)), (12, .int .i64 1), (13, .int .i64 ((nth M k2).hi)), (14, .int .i64 0)] ⟨rfl, rfl, rfl, rfl, rfl, rfl, rfl, trivial⟩ (hK807 _ _ (c_seq fun K835 hK835 => (c_seq fun K836 hK836 => (c_region (t_move rfl rfl rfl (t_cmp rfl rfl rfl rfl rfl (t_nil' (hK836 _ _ (c_condp rfl (fun g200 => ?_) (fun g200 => ?_))))))))))
            ·
             exfalso; omega
            ·
             refine c_skip (hK835 _ _ (c_seq fun K837 hK837 => (c_region (t_move rfl rfl rfl (t_move rfl rfl rfl ?_)))))
             have D838 := (D797.keep u833 (fun _ h => h))
             have i839 : k2 < us.length := (by omega)
             refine t_index (j := k2) Try.underlying72 Try.sizeOf79 rfl rfl rfl rfl ((D838.sl (fun _ => rfl)).addr (by omega)) rfl i839 (t_field Try.underlying79 rfl Try.sizeOf3 (0 + k2 * 4 + 0) rfl rfl rfl rfl (t_load Try.isAgg3 rfl rfl rfl (((D838.sl (fun _ => rfl)).at_ k2 (by omega)) 0 _ rfl) (t_move rfl rfl rfl (t_ari rfl rfl rfl rfl rfl (by omega) (t_assign rfl rfl rfl (t_nil' (hK837 _ _ (c_seq fun K840 hK840 => (c_region (t_move rfl rfl rfl (t_move rfl rfl rfl (t_move rfl rfl rfl ?_))))))))))))
             have i841 : k2 < us.length := (by omega)
             refine t_index (j := k2) Try.underlying72 Try.sizeOf79 rfl rfl rfl rfl ((D838.sl (fun _ => rfl)).addr (by omega)) rfl i841 (t_field Try.underlying79 rfl Try.sizeOf77 (0 + k2 * 4 + 1) rfl rfl rfl rfl (t_field Try.underlying77 rfl Try.sizeOf3 (0 + k2 * 4 + 1 + 0) rfl rfl rfl rfl (t_load Try.isAgg3 rfl rfl rfl (((D838.sl (fun _ => rfl)).at_ k2 (by omega)) 1 _ rfl) (t_cmp rfl rfl rfl rfl rfl (t_move rfl rfl rfl (t_splitp 231 rfl (fun g231 => ?_) (fun g231 => ?_)))))))
             ·
              exact absurd g231 (by omega)
             ·
              refine t_move rfl rfl rfl (t_move rfl rfl rfl (t_move rfl rfl rfl ?_))
              have i842 : k2 < us.length := (by omega)
              refine t_index (j := k2) Try.underlying72 Try.sizeOf79 rfl rfl rfl rfl ((D838.sl (fun _ => rfl)).addr (by omega)) rfl i842 (t_field Try.underlying79 rfl Try.sizeOf77 (0 + k2 * 4 + 1) rfl rfl rfl rfl (t_field Try.underlying77 rfl Try.sizeOf3 (0 + k2 * 4 + 1 + 1) rfl rfl rfl rfl (t_load Try.isAgg3 rfl rfl rfl (((D838.sl (fun _ => rfl)).at_ k2 (by omega)) 2 _ rfl) (t_cmp rfl rfl rfl rfl rfl (t_pick_f rfl rfl rfl rfl (t_move rfl rfl rfl (t_splitp 241 rfl (fun g241 => ?_) (fun g241 => ?_))))))))
              ·
               exact absurd g241 (by omega)
              ·
               refine t_move rfl rfl rfl (t_move rfl rfl rfl (t_cmp rfl rfl rfl rfl rfl (t_pick_f rfl rfl rfl rfl (t_move rfl rfl rfl (t_splitp 246 rfl (fun g246 => ?_) (fun g246 => ?_))))))
               ·
                exact absurd g246 (by omega)
               ·
                refine t_move rfl rfl rfl (t_move rfl rfl rfl ?_)
                have i843 : k2 < us.length := (by omega)
                refine t_index (j := k2) Try.underlying72 Try.sizeOf79 rfl rfl rfl rfl ((D838.sl (fun _ => rfl)).addr (by omega)) rfl i843 (t_field Try.underlying79 rfl Try.sizeOf4 (0 + k2 * 4 + 3) rfl rfl rfl rfl (t_load Try.isAgg4 rfl rfl rfl (((D838.sl (fun _ => rfl)).at_ k2 (by omega)) 3 _ rfl) (t_move rfl rfl rfl (t_split 252 rfl (fun g252 => ?_) (fun g252 => ?_)))))
                ·
                 refine t_move rfl rfl rfl (t_move rfl rfl rfl (t_cmp rfl rfl rfl rfl rfl (t_pick_t rfl rfl rfl rfl (t_pick_f rfl rfl rfl rfl (t_nil' (hK840 _ _ (c_condp rfl (fun g257 => ?_) (fun g257 => ?_))))))))
                 ·
                  exact absurd g257 (by omega)
                 ·
                  refine c_skip (hK806 _ _ (c_region (t_move rfl rfl rfl (t_ari rfl rfl rfl rfl rfl (by omega) (t_samehd (v := .int .i64 2) rfl (t_assign rfl rfl rfl (t_nil' (hK803 _ _ (WR.weak [(3, .slice ao3 us.length c3), (4, .slice ao4 tr.length c4), (8, .slice (some ⟨gM, 0, none⟩) us.length us.length), (11, .int .i64 (k2 : Int)), (12, .int .i64 2)] ⟨rfl, rfl, rfl, rfl, rfl, trivial⟩ (r_round fun K844 hK844 => (c_seq fun K845 hK845 => (c_seq fun K846 hK846 => (c_region (t_move rfl rfl rfl (t_cmp rfl rfl rfl rfl rfl (t_samehd (v := .bool false) rfl (t_nil' (hK846 _ _ (c_cond_f rfl (c_exit (hK396 _ _ (c_region (t_move rfl rfl rfl ?_)))))))))))))))))))))))
                  refine t_ari rfl rfl rfl rfl rfl (by omega) (t_assign rfl rfl rfl (t_nil' ?_))
                  exact hK389 (k2 + 1) _ _ (by omega) ⟨rfl, rfl, rfl, rfl, trivial⟩ ⟨(((u391.next u401 (fun _ _ h => h.elim)).next u598 (fun _ _ h => h.elim)).next u833 (fun _ _ h => h.elim)), (by omega)⟩
                ·
                 rw [g252] at hsl; cases hsl
          ·
           have hsl := g252
           refine t_skip rfl rfl rfl (t_skip rfl rfl rfl (t_skip rfl rfl rfl (t_pick_f rfl rfl rfl rfl (t_pick_f rfl rfl rfl rfl (t_nil' (hK799 _ _ (c_cond_f rfl (c_skip (hK571 _ _ (c_region (t_move rfl rfl rfl (t_ari rfl rfl rfl rfl rfl (by omega) (t_samehd (v := .int .i64 1) rfl (t_assign rfl rfl rfl (t_nil' (hK568 _ _ (WR.weak [(3, .slice ao3 us.length c3), (4, .slice ao4 tr.length c4), (8, .slice (some ⟨gM, 0, none⟩) us.length us.length), (11, .int .i64 (k2 : Int)), (12, .int .i64 1)] ⟨rfl, rfl, rfl, rfl, rfl, trivial⟩ (r_round fun K847 hK847 => (c_seq fun K848 hK848 => (c_seq fun K849 hK849 => (c_region (t_move rfl rfl rfl (t_cmp rfl rfl rfl rfl rfl ?_)))))))))))))))))))))))
           refine t_samehd (v := .bool true) rfl (t_nil' (hK849 _ _ (c_cond_t rfl (c_skip (hK848 _ _ (c_seq fun K850 hK850 => (c_block (c_seq fun K851 hK851 => (WC.weak [(3, .slice ao3 us.length c3), (4, .slice ao4 tr.length c4), (8, .slice (some ⟨gM, 0, none⟩) us.length us.length), (11, .int .i64 (k2 : Int)), (12, .int .i64 1)] ⟨rfl, rfl, rfl, rfl, rfl, trivial⟩ (c_drawn follows 15 [some (186, some (.slice (some ⟨gM, 0, none⟩) us.length us.length)), some (187, some (.int .i64 (k2 : Int))), some (188, some (.pointer (some ⟨gM, 0 + k2 * 2, none⟩))), some (189, some (.pointer (some ⟨gM, 0 + k2 * 2 + 0, none⟩))), some (190, some (.int .i64 ((nth M k2).lo))), some (191, some (.slice (some ⟨gM, 0, none⟩) us.length us.length)), some (192, some (.int .i64 (k2 : Int))), some (193, some (.pointer (some ⟨gM, 0 + k2 * 2, none⟩))), some (194, some (.pointer (some ⟨gM, 0 + k2 * 2 + 1, none⟩))), some (195, some (.int .i64 ((nth M k2).hi))), some (196, some (.agg #[.int .i64 ((nth M k2).lo), .int .i64 ((nth M k2).hi)])), some (197, some (.int .i64 1)), some (198, some (.int .i64 ((nth M k2).hi))), some (13, some (.int .i64 ((nth M k2).hi))), some (14, some (.int .i64 0))] [[],[],[0,1],[2],[3],[],[],[5,6],[7],[8],[4,9],[],[10,11],[12,0,1,2,3,4,5,6,7,8,9,10,11,12],[13,0,1,2,3,4,5,6,7,8,9,10,11,12,13]] (fun _ _ w => Upd (fun _ => False) w597 w) rfl rfl rfl (by kernel_rfl) (by kernel_rfl) (Upd.drew _).to ⟨?_, ?_, ?_, ?_, ?_, ?_, ?_, ?_, ?_, ?_, ?_, ?_, ?_, ?_, ?_, trivial⟩ ?_))))))))))
           · exact pz rfl rfl rfl rfl fun _ _ _ h => h
           · exact pz rfl rfl rfl rfl fun _ _ _ h => h
           ·
            intro D ρ w855 hcD hnD hdD hW
            have zhW := hW.size
            refine ⟨_, kf_fr [186, 187], fun Lr => ?_⟩
            have D858 := ((((hsM.keep u391 (fun _ h => h)).keep u401 (fun _ h => h)).keep u598 (fun _ h => h)).keep hW (fun _ h => h))
            have i859 : k2 < M.length := (by omega)
            refine t_index (j := k2) Try.underlying73 Try.sizeOf77 rfl rfl rfl rfl (D858.addr (by omega)) rfl (by omega) ?_
            exact dz rfl hW
           · exact pzf Try.underlying77 rfl Try.sizeOf3 (0 + k2 * 2 + 0) rfl rfl rfl rfl rfl fun _ _ _ h => h
           ·
            intro D ρ w860 hcD hnD hdD hW
            have zhW := hW.size
            refine ⟨_, kf_fr [189], fun Lr => ?_⟩
            have D863 := ((((hsM.keep u391 (fun _ h => h)).keep u401 (fun _ h => h)).keep u598 (fun _ h => h)).keep hW (fun _ h => h))
            refine t_load Try.isAgg3 rfl rfl rfl ((D863.at_ k2 (by omega)) 0 _ rfl) ?_
            exact dz rfl hW
           · exact pz rfl rfl rfl rfl fun _ _ _ h => h
           · exact pz rfl rfl rfl rfl fun _ _ _ h => h
           ·
            intro D ρ w864 hcD hnD hdD hW
            have zhW := hW.size
            refine ⟨_, kf_fr [191, 192], fun Lr => ?_⟩
            have D867 := ((((hsM.keep u391 (fun _ h => h)).keep u401 (fun _ h => h)).keep u598 (fun _ h => h)).keep hW (fun _ h => h))
            have i868 : k2 < M.length := (by omega)
            refine t_index (j := k2) Try.underlying73 Try.sizeOf77 rfl rfl rfl rfl (D867.addr (by omega)) rfl (by omega) ?_
            exact dz rfl hW
           · exact pzf Try.underlying77 rfl Try.sizeOf3 (0 + k2 * 2 + 1) rfl rfl rfl rfl rfl fun _ _ _ h => h
           ·
            intro D ρ w869 hcD hnD hdD hW
            have zhW := hW.size
            refine ⟨_, kf_fr [194], fun Lr => ?_⟩
            have D872 := ((((hsM.keep u391 (fun _ h => h)).keep u401 (fun _ h => h)).keep u598 (fun _ h => h)).keep hW (fun _ h => h))
            refine t_load Try.isAgg3 rfl rfl rfl ((D872.at_ k2 (by omega)) 1 _ rfl) ?_
            exact dz rfl hW
           · exact fun D ρ w _ _ _ hW => ⟨[(190, .int .i64 ((nth M k2).lo)), (195, .int .i64 ((nth M k2).hi))], ⟨fi 4 rfl rfl rfl, fi 9 rfl rfl rfl, trivial⟩, fun Lr => t_build (ps := [(0, .int .i64 ((nth M k2).lo)), (1, .int .i64 ((nth M k2).hi))]) (v := .agg #[.int .i64 ((nth M k2).lo), .int .i64 ((nth M k2).hi)]) rfl rfl ⟨rfl, rfl⟩ (fun w => by kernel_rfl) (dz rfl hW)⟩
           · exact pz rfl rfl rfl rfl fun _ _ _ h => h
           ·
            intro D ρ w873 hcD hnD hdD hW
            have zhW := hW.size
            refine ⟨_, kf_fr [196, 197], fun Lr => ?_⟩
            refine t_idxv (cs := [.int .i64 ((nth M k2).lo), .int .i64 ((nth M k2).hi)]) 1 Try.underlying104 Try.isAgg3 Try.sizeOf3 rfl rfl rfl rfl rfl (by decide) rfl ?_
            exact dz rfl hW
           · exact pz rfl rfl rfl rfl fun _ _ _ h => h
           · exact pz rfl rfl rfl rfl fun _ _ _ h => h
           intro ρ w876 hW
           have u877 : Upd (fun _ => False) w597 w876 := hW
           have zu877 := u877.size
           refine QK.weak [(3, .slice ao3 us.length c3), (4, .slice ao4 tr.length c4), (8, .slice (some ⟨gM, 0, none⟩) us.length us.length), (11, .int .i64 (k2 : Int)), (12, .int .i64 1), (13, .int .i64 ((nth M k2).hi)), (14, .int .i64 0)] ⟨rfl, rfl, rfl, rfl, rfl, rfl, rfl, trivial⟩ (hK851 _ _ (c_seq fun K879 hK879 => (c_seq fun K880 hK880 => (c_region (t_move rfl rfl rfl (t_cmp rfl rfl rfl rfl rfl (t_nil' (hK880 _ _ (c_condp rfl (fun g200 => ?_) (fun g200 => ?_))))))))))
           ·
            exfalso; omega
           ·
            refine c_skip (hK879 _ _ (c_seq fun K881 hK881 => (c_region (t_move rfl rfl rfl (t_move rfl rfl rfl ?_)))))
            have D882 := (D797.keep u877 (fun _ h => h))
            have i883 : k2 < us.length := (by omega)
            refine t_index (j := k2) Try.underlying72 Try.sizeOf79 rfl rfl rfl rfl ((D882.sl (fun _ => rfl)).addr (by omega)) rfl i883 (t_field Try.underlying79 rfl Try.sizeOf3 (0 + k2 * 4 + 0) rfl rfl rfl rfl (t_load Try.isAgg3 rfl rfl rfl (((D882.sl (fun _ => rfl)).at_ k2 (by omega)) 0 _ rfl) (t_move rfl rfl rfl (t_ari rfl rfl rfl rfl rfl (by omega) (t_assign rfl rfl rfl (t_nil' (hK881 _ _ (c_seq fun K884 hK884 => (c_region (t_move rfl rfl rfl (t_move rfl rfl rfl (t_move rfl rfl rfl ?_))))))))))))
            have i885 : k2 < us.length := (by omega)
            refine t_index (j := k2) Try.underlying72 Try.sizeOf79 rfl rfl rfl rfl ((D882.sl (fun _ => rfl)).addr (by omega)) rfl i885 (t_field Try.underlying79 rfl Try.sizeOf77 (0 + k2 * 4 + 1) rfl rfl rfl rfl (t_field Try.underlying77 rfl Try.sizeOf3 (0 + k2 * 4 + 1 + 0) rfl rfl rfl rfl (t_load Try.isAgg3 rfl rfl rfl (((D882.sl (fun _ => rfl)).at_ k2 (by omega)) 1 _ rfl) (t_cmp rfl rfl rfl rfl rfl (t_move rfl rfl rfl (t_splitp 231 rfl (fun g231 => ?_) (fun g231 => ?_)))))))
            ·
             exact absurd g231 (by omega)
            ·
             refine t_move rfl rfl rfl (t_move rfl rfl rfl (t_move rfl rfl rfl ?_))
             have i886 : k2 < us.length := (by omega)
             refine t_index (j := k2) Try.underlying72 Try.sizeOf79 rfl rfl rfl rfl ((D882.sl (fun _ => rfl)).addr (by omega)) rfl i886 (t_field Try.underlying79 rfl Try.sizeOf77 (0 + k2 * 4 + 1) rfl rfl rfl rfl (t_field Try.underlying77 rfl Try.sizeOf3 (0 + k2 * 4 + 1 + 1) rfl rfl rfl rfl (t_load Try.isAgg3 rfl rfl rfl (((D882.sl (fun _ => rfl)).at_ k2 (by omega)) 2 _ rfl) (t_cmp rfl rfl rfl rfl rfl (t_pick_f rfl rfl rfl rfl (t_move rfl rfl rfl (t_splitp 241 rfl (fun g241 => ?_) (fun g241 => ?_))))))))
             ·
              exact absurd g241 (by omega)
             ·
              refine t_move rfl rfl rfl (t_move rfl rfl rfl (t_cmp rfl rfl rfl rfl rfl (t_pick_f rfl rfl rfl rfl (t_move rfl rfl rfl (t_splitp 246 rfl (fun g246 => ?_) (fun g246 => ?_))))))
              ·
               exact absurd g246 (by omega)
              ·
               refine t_move rfl rfl rfl (t_move rfl rfl rfl ?_)
               have i887 : k2 < us.length := (by omega)
               refine t_index (j := k2) Try.underlying72 Try.sizeOf79 rfl rfl rfl rfl ((D882.sl (fun _ => rfl)).addr (by omega)) rfl i887 (t_field Try.underlying79 rfl Try.sizeOf4 (0 + k2 * 4 + 3) rfl rfl rfl rfl (t_load Try.isAgg4 rfl rfl rfl (((D882.sl (fun _ => rfl)).at_ k2 (by omega)) 3 _ rfl) (t_move rfl rfl rfl (t_split 252 rfl (fun g252 => ?_) (fun g252 => ?_)))))
               ·
                rw [g252] at hsl; cases hsl
               ·
                refine t_skip rfl rfl rfl (t_skip rfl rfl rfl (t_skip rfl rfl rfl (t_pick_f rfl rfl rfl rfl (t_pick_f rfl rfl rfl rfl (t_nil' (hK884 _ _ (c_cond_f rfl (c_skip (hK850 _ _ (c_region (t_move rfl rfl rfl (t_ari rfl rfl rfl rfl rfl (by omega) (t_samehd (v := .int .i64 2) rfl (t_assign rfl rfl rfl (t_nil' (hK847 _ _ (WR.weak [(3, .slice ao3 us.length c3), (4, .slice ao4 tr.length c4), (8, .slice (some ⟨gM, 0, none⟩) us.length us.length), (11, .int .i64 (k2 : Int)), (12, .int .i64 2)] ⟨rfl, rfl, rfl, rfl, rfl, trivial⟩ (r_round fun K888 hK888 => (c_seq fun K889 hK889 => (c_seq fun K890 hK890 => (c_region (t_move rfl rfl rfl (t_cmp rfl rfl rfl rfl rfl ?_)))))))))))))))))))))))
                refine t_samehd (v := .bool false) rfl (t_nil' (hK890 _ _ (c_cond_f rfl (c_exit (hK396 _ _ (c_region (t_move rfl rfl rfl (t_ari rfl rfl rfl rfl rfl (by omega) (t_assign rfl rfl rfl (t_nil' ?_))))))))))
                exact hK389 (k2 + 1) _ _ (by omega) ⟨rfl, rfl, rfl, rfl, trivial⟩ ⟨(((u391.next u401 (fun _ _ h => h.elim)).next u598 (fun _ _ h => h.elim)).next u877 (fun _ _ h => h.elim)), (by omega)⟩
   ·
    refine c_exit (hK387 _ _ (c_seq fun K891 hK891 => (c_seq fun K892 hK892 => (c_region (t_move rfl rfl rfl (t_len Try.underlying72 rfl rfl rfl rfl (t_cmp rfl rfl rfl rfl rfl (t_nil' (hK892 _ _ (c_condp rfl (fun g260 => ?_) (fun g260 => ?_)))))))))))
    ·
     refine c_seq fun K893 hK893 => (c_region (t_call (vs := []) own11 rfl rfl rfl rfl (known_c _) (fun v894 w895 r897 => ?_)))
     obtain ⟨rfl, u896⟩ := r897
     have zu896 := u896.size
     have E898 := E393.next u896 (fun _ _ h => h.elim)
     refine t_assign rfl rfl rfl (t_nil' (hK893 _ _ (c_ret (f_ret1 (v := .bool true) Try.results9 rfl ?_))))
     exact ⟨rfl, E898⟩
    ·
     have hup0 : 0 < us.length := by omega
     refine c_skip (hK891 _ _ (c_seq fun K899 hK899 => (c_region (t_bslice (ps := []) (cs := []) (e := 79) rfl rfl ⟨rfl, rfl⟩ (fun w => by kernel_rfl) (fun bk900 w901 ebk900 sbk900 B902 u903 => ?_)))))
     have zu903 := u903.size
     have E904 := E393.next u903 (fun _ _ h => h.elim)
     refine t_move rfl rfl rfl (t_move rfl rfl rfl (t_len Try.underlying72 rfl rfl rfl rfl (t_ari rfl rfl rfl rfl rfl (by omega) ?_)))
     have D905 := ((((D372.keep u378 (fun hb => show ¬ ((g3 = bk367 ∧ bk367 ≤ g3)) by first | omega | assumption)).keep u382 (fun _ h => h)).keep u391 (fun _ h => h)).keep u903 (fun _ h => h))
     have hlt9 : ((us).take (us.length - 1)).length = us.length - 1 := by rw [List.length_take]; omega
     have hcap3 := (D905).lenLe
     refine t_sliceTo ((us.length - 1)) Try.underlying72 Try.sizeOf79 rfl rfl rfl rfl (by omega) (by omega) (t_same 268 (v := .slice (subAddr ao3 c3 0 4) (((us).take (us.length - 1)).length) c3) rfl (by rw [List.length_take, Nat.min_eq_left (Nat.sub_le _ _)]) (t_copy (enc := encSur) (z := .agg #[.int .i64 0, .int .i64 0, .int .i64 0, .bool false]) (bytes := 32) (k := 4) (ys := ((us).take (us.length - 1))) Try.underlying72 (by kernel_rfl) rfl (by decide) (fun _ => rfl) (by intro x; simp [encSur, Value.oneCell']) rfl rfl rfl rfl B902 (Sl.subTo (D905.sl (fun _ => rfl)) c3 (us.length - 1) (by omega)) (by omega) (by decide) (fun ao906 gb907 cp908 w909 A910 u911 gegb907 => ?_)))
     have zu911 := u911.size
     have E912 := E904.next u911 (fun i hi (h : (i = bk900 ∧ bk900 ≤ i)) => show False by first | omega | assumption)
     have lt_gb907 := A910.lt
     refine t_call (vs := [.slice ao906 ((((us).take (us.length - 1))).length) cp908]) own28 rfl rfl rfl rfl (LossesT_c us tr ls (us.length - 1) ((((us).take (us.length - 1))).length) (by rw [List.length_take]; omega) (by omega) hT ao906 gb907 0 cp908 _ (A910.sl (fun _ => rfl)) (by omega)) (fun v913 w914 r916 => ?_)
     obtain ⟨⟨gC, M2, rfl, hsM2, hlM2, hrM2⟩, u915⟩ := r916
     have zu915 := u915.size
     have E917 := E912.next u915 (fun _ _ h => h.elim)
     have hrN : LosR (spK us (us.length - 1 + 1)) 0 M := by rw [show us.length - 1 + 1 = us.length by omega]; exact hrM
     have hF := fun i hi => hT.fewer (n := us.length - 1) (by omega) hrN hrM2 (i := i) hi
     refine t_move rfl rfl rfl (t_extract (vs := [.slice (some ⟨gC, 0, none⟩) (us.length - 1) (us.length - 1), .int .i64 0, .int .i64 0]) rfl rfl rfl rfl (t_extract (vs := [.slice (some ⟨gC, 0, none⟩) (us.length - 1) (us.length - 1), .int .i64 0, .int .i64 0]) rfl rfl rfl rfl (t_extract (vs := [.slice (some ⟨gC, 0, none⟩) (us.length - 1) (us.length - 1), .int .i64 0, .int .i64 0]) rfl rfl rfl rfl (t_assign rfl rfl rfl (t_assign rfl rfl rfl (t_assign rfl rfl rfl (t_nil' (hK899 _ _ (c_seq fun K918 hK918 => (c_seq fun K919 hK919 => (c_region (t_move rfl rfl rfl (t_cmp rfl rfl rfl rfl rfl (t_samehd (v := .bool false) rfl (t_move rfl rfl rfl (t_move rfl rfl rfl (t_len Try.underlying73 rfl rfl rfl rfl (t_move rfl rfl rfl (t_len Try.underlying72 rfl rfl rfl rfl (t_ari rfl rfl rfl rfl rfl (by omega) (t_cmp rfl rfl rfl rfl rfl (t_pick_f rfl rfl rfl rfl (t_nil' ?_)))))))))))))))))))))))
     refine hK919 _ _ (c_condp rfl (fun g283 => ?_) (fun g283 => ?_))
     ·
      exact absurd g283 (by omega)
     ·
      refine c_skip (hK918 _ _ (c_seq fun K920 hK920 => (c_seq fun K921 hK921 => (c_region (t_assign rfl rfl rfl (t_nil' (hK921 _ _ (c_block (c_loop (γ := Nat) (fun k3 => [(8, .slice (some ⟨gM, 0, none⟩) us.length us.length), (16, .slice (some ⟨gC, 0, none⟩) (us.length - 1) (us.length - 1)), (18, .int .i64 (k3 : Int))]) (fun k3 w => Upd (fun _ => False) w914 w ∧ (k3 ≤ us.length - 1)) (fun k3 => us.length - k3) 0 ⟨rfl, rfl, rfl, trivial⟩ ⟨Upd.refl _ _, (Nat.zero_le _)⟩ ?_)))))))))
      intro k3 w923 hW K922 hK922
      obtain ⟨u924, I925⟩ := hW
      have zu924 := u924.size
      have E926 := E917.next u924 (fun _ _ h => h.elim)
      have hk3 := I925; clear I925
      refine c_seq fun K927 hK927 => (c_seq fun K928 hK928 => (c_region (t_move rfl rfl rfl (t_move rfl rfl rfl (t_len Try.underlying73 rfl rfl rfl rfl (t_cmp rfl rfl rfl rfl rfl (t_nil' (hK928 _ _ (c_condp rfl (fun g287 => ?_) (fun g287 => ?_))))))))))
      ·
       have hF1 := hF k3 (by omega)
       have g301 : ¬ (nth M k3).lo < (nth M2 k3).lo := by omega
       refine c_skip (hK927 _ _ (c_seq fun K929 hK929 => (c_block (c_seq fun K930 hK930 => (WC.weak [(8, .slice (some ⟨gM, 0, none⟩) us.length us.length), (16, .slice (some ⟨gC, 0, none⟩) (us.length - 1) (us.length - 1)), (18, .int .i64 (k3 : Int))] ⟨rfl, rfl, rfl, trivial⟩ (c_drawn follows 24 [some (290, some (.slice (some ⟨gC, 0, none⟩) (us.length - 1) (us.length - 1))), some (291, some (.int .i64 (k3 : Int))), some (292, some (.pointer (some ⟨gC, 0 + k3 * 2, none⟩))), some (293, some (.pointer (some ⟨gC, 0 + k3 * 2 + 0, none⟩))), some (294, some (.int .i64 ((nth M2 k3).lo))), some (295, some (.slice (some ⟨gM, 0, none⟩) us.length us.length)), some (296, some (.int .i64 (k3 : Int))), some (297, some (.pointer (some ⟨gM, 0 + k3 * 2, none⟩))), some (298, some (.pointer (some ⟨gM, 0 + k3 * 2 + 0, none⟩))), some (299, some (.int .i64 ((nth M k3).lo))), some (300, some (.bool (decide ((nth M k3).lo < (nth M2 k3).lo)))), some (301, some (.bool false)), some (302, some (.slice (some ⟨gC, 0, none⟩) (us.length - 1) (us.length - 1))), some (303, some (.int .i64 (k3 : Int))), some (304, some (.pointer (some ⟨gC, 0 + k3 * 2, none⟩))), some (305, some (.pointer (some ⟨gC, 0 + k3 * 2 + 1, none⟩))), some (306, some (.int .i64 ((nth M2 k3).hi))), some (307, some (.slice (some ⟨gM, 0, none⟩) us.length us.length)), some (308, some (.int .i64 (k3 : Int))), some (309, some (.pointer (some ⟨gM, 0 + k3 * 2, none⟩))), some (310, some (.pointer (some ⟨gM, 0 + k3 * 2 + 1, none⟩))), some (311, some (.int .i64 ((nth M k3).hi))), some (312, some (.bool (decide ((nth M2 k3).hi < (nth M k3).hi)))), some (313, some (.bool (decide ((nth M2 k3).hi < (nth M k3).hi))))] [[],[],[0,1],[2],[3],[],[],[5,6],[7],[8],[4,9],[10],[11],[11],[12,13,11],[14,11],[15,11],[11],[11],[17,18,11],[19,11],[20,11],[16,21,11],[11,22]] (fun _ _ w => Upd (fun _ => False) w923 w) rfl rfl rfl (by kernel_rfl) (by kernel_rfl) (Upd.drew _).to ⟨?_, ?_, ?_, ?_, ?_, ?_, ?_, ?_, ?_, ?_, ?_, ?_, ?_, ?_, ?_, ?_, ?_, ?_, ?_, ?_, ?_, ?_, ?_, ?_, trivial⟩ ?_))))))
       · exact pz rfl rfl rfl rfl fun _ _ _ h => h
       · exact pz rfl rfl rfl rfl fun _ _ _ h => h
       ·
        intro D ρ w937 hcD hnD hdD hW
        have zhW := hW.size
        refine ⟨_, kf_fr [290, 291], fun Lr => ?_⟩
        have D940 := ((hsM2.keep u924 (fun _ h => h)).keep hW (fun _ h => h))
        have i941 : k3 < M2.length := (by omega)
        refine t_index (j := k3) Try.underlying73 Try.sizeOf77 rfl rfl rfl rfl (D940.addr (by omega)) rfl (by omega) ?_
        exact dz rfl hW
       · exact pzf Try.underlying77 rfl Try.sizeOf3 (0 + k3 * 2 + 0) rfl rfl rfl rfl rfl fun _ _ _ h => h
       ·
        intro D ρ w942 hcD hnD hdD hW
        have zhW := hW.size
        refine ⟨_, kf_fr [293], fun Lr => ?_⟩
        have D945 := ((hsM2.keep u924 (fun _ h => h)).keep hW (fun _ h => h))
        refine t_load Try.isAgg3 rfl rfl rfl ((D945.at_ k3 (by omega)) 0 _ rfl) ?_
        exact dz rfl hW
       · exact pz rfl rfl rfl rfl fun _ _ _ h => h
       · exact pz rfl rfl rfl rfl fun _ _ _ h => h
       ·
        intro D ρ w946 hcD hnD hdD hW
        have zhW := hW.size
        refine ⟨_, kf_fr [295, 296], fun Lr => ?_⟩
        have D949 := ((((((hsM.keep u391 (fun _ h => h)).keep u903 (fun _ h => h)).keep u911 (fun hp => by have h9 := hsM.lt hp; show ¬ ((gM = bk900 ∧ bk900 ≤ gM)); omega)).keep u915 (fun _ h => h)).keep u924 (fun _ h => h)).keep hW (fun _ h => h))
        have i950 : k3 < M.length := (by omega)
        refine t_index (j := k3) Try.underlying73 Try.sizeOf77 rfl rfl rfl rfl (D949.addr (by omega)) rfl (by omega) ?_
        exact dz rfl hW
       · exact pzf Try.underlying77 rfl Try.sizeOf3 (0 + k3 * 2 + 0) rfl rfl rfl rfl rfl fun _ _ _ h => h
       ·
        intro D ρ w951 hcD hnD hdD hW
        have zhW := hW.size
        refine ⟨_, kf_fr [298], fun Lr => ?_⟩
        have D954 := ((((((hsM.keep u391 (fun _ h => h)).keep u903 (fun _ h => h)).keep u911 (fun hp => by have h9 := hsM.lt hp; show ¬ ((gM = bk900 ∧ bk900 ≤ gM)); omega)).keep u915 (fun _ h => h)).keep u924 (fun _ h => h)).keep hW (fun _ h => h))
        refine t_load Try.isAgg3 rfl rfl rfl ((D954.at_ k3 (by omega)) 0 _ rfl) ?_
        exact dz rfl hW
       · exact pz rfl rfl rfl rfl fun _ _ _ h => h
       · exact fun D ρ w _ _ _ hW => ⟨[(300, .bool (decide ((nth M k3).lo < (nth M2 k3).lo)))], ⟨fi 10 rfl rfl rfl, trivial⟩, fun Lr => t_move rfl rfl rfl (t_samehd (v := .bool false) (by first | exact congrArg Value.bool (decide_eq_false g301) | exact congrArg Value.bool g301 | simp [g301]) (dz rfl hW))⟩
       · exact pz rfl rfl rfl rfl fun _ _ _ h => h
       · exact pz rfl rfl rfl rfl fun _ _ _ h => h
       ·
        intro D ρ w955 hcD hnD hdD hW
        have zhW := hW.size
        refine ⟨_, kf_fr [301, 302, 303], fun Lr => ?_⟩
        have D958 := ((hsM2.keep u924 (fun _ h => h)).keep hW (fun _ h => h))
        have i959 : k3 < M2.length := (by omega)
        refine t_index (j := k3) Try.underlying73 Try.sizeOf77 rfl rfl rfl rfl (D958.addr (by omega)) rfl (by omega) ?_
        exact dz rfl hW
       · exact pzf Try.underlying77 rfl Try.sizeOf3 (0 + k3 * 2 + 1) rfl rfl rfl rfl rfl fun _ _ _ h => h
       ·
        intro D ρ w960 hcD hnD hdD hW
        have zhW := hW.size
        refine ⟨_, kf_fr [301, 305], fun Lr => ?_⟩
        have D963 := ((hsM2.keep u924 (fun _ h => h)).keep hW (fun _ h => h))
        refine t_load Try.isAgg3 rfl rfl rfl ((D963.at_ k3 (by omega)) 1 _ rfl) ?_
        exact dz rfl hW
       · exact pz rfl rfl rfl rfl fun _ _ _ h => h
       · exact pz rfl rfl rfl rfl fun _ _ _ h => h
       ·
        intro D ρ w964 hcD hnD hdD hW
        have zhW := hW.size
        refine ⟨_, kf_fr [301, 307, 308], fun Lr => ?_⟩
        have D967 := ((((((hsM.keep u391 (fun _ h => h)).keep u903 (fun _ h => h)).keep u911 (fun hp => by have h9 := hsM.lt hp; show ¬ ((gM = bk900 ∧ bk900 ≤ gM)); omega)).keep u915 (fun _ h => h)).keep u924 (fun _ h => h)).keep hW (fun _ h => h))
        have i968 : k3 < M.length := (by omega)
        refine t_index (j := k3) Try.underlying73 Try.sizeOf77 rfl rfl rfl rfl (D967.addr (by omega)) rfl (by omega) ?_
        exact dz rfl hW
       · exact pzf Try.underlying77 rfl Try.sizeOf3 (0 + k3 * 2 + 1) rfl rfl rfl rfl rfl fun _ _ _ h => h
       ·
        intro D ρ w969 hcD hnD hdD hW
        have zhW := hW.size
        refine ⟨_, kf_fr [301, 310], fun Lr => ?_⟩
        have D972 := ((((((hsM.keep u391 (fun _ h => h)).keep u903 (fun _ h => h)).keep u911 (fun hp => by have h9 := hsM.lt hp; show ¬ ((gM = bk900 ∧ bk900 ≤ gM)); omega)).keep u915 (fun _ h => h)).keep u924 (fun _ h => h)).keep hW (fun _ h => h))
        refine t_load Try.isAgg3 rfl rfl rfl ((D972.at_ k3 (by omega)) 1 _ rfl) ?_
        exact dz rfl hW
       · exact pz rfl rfl rfl rfl fun _ _ _ h => h
       · exact pz rfl rfl rfl rfl fun _ _ _ h => h
       intro ρ w973 hW
       have u974 : Upd (fun _ => False) w923 w973 := hW
       have zu974 := u974.size
       refine QK.weak [(8, .slice (some ⟨gM, 0, none⟩) us.length us.length), (16, .slice (some ⟨gC, 0, none⟩) (us.length - 1) (us.length - 1)), (18, .int .i64 (k3 : Int)), (313, .bool (decide ((nth M2 k3).hi < (nth M k3).hi)))] ⟨rfl, rfl, rfl, rfl, trivial⟩ (hK930 _ _ (c_condp rfl (fun g313 => ?_) (fun g313 => ?_)))
       ·
        exact absurd g313 (by omega)
       ·
        refine c_skip (hK929 _ _ (c_region (t_move rfl rfl rfl (t_ari rfl rfl rfl rfl rfl (by omega) (t_assign rfl rfl rfl (t_nil' ?_))))))
        exact hK922 (k3 + 1) _ _ (by omega) ⟨rfl, rfl, rfl, trivial⟩ ⟨(u924.next u974 (fun _ _ h => h.elim)), (by omega)⟩
      ·
       refine c_exit (hK920 _ _ (c_seq fun K976 hK976 => (c_region (t_call (vs := []) own11 rfl rfl rfl rfl (known_c _) (fun v977 w978 r980 => ?_)))))
       obtain ⟨rfl, u979⟩ := r980
       have zu979 := u979.size
       have E981 := E926.next u979 (fun _ _ h => h.elim)
       refine t_assign rfl rfl rfl (t_nil' (hK976 _ _ (c_ret (f_ret1 (v := .bool true) Try.results9 rfl ?_))))
       exact ⟨rfl, E981⟩

end Go.Proofs.Ytgkkgpenmppjcaa
