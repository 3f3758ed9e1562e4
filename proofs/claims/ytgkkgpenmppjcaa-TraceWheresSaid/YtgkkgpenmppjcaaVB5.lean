/-
  The reference's with. Conditions: none.
-/
import Derived.Test.YtgkkgpenmppjcaaVB4
namespace Go.Proofs.Ytgkkgpenmppjcaa
open Go Go.RowKit

theorem Acc.rebase {α : Type} {enc : α → List Value} {k : Nat} {e : TypeId} {base base' : Nat} {w : World} {ao : Option Addr} {g cap : Nat} {xs : List α} (h : Acc enc k e base w ao g cap xs) (hg : base ≤ g) (hb : base' ≤ base) : Acc enc k e base' w ao g cap xs := by
  refine ⟨h.lt, ?_⟩
  rcases h.at_ with ⟨_, _, _, h1⟩ | ⟨h1, h2, h3⟩
  · omega
  · exact .inr ⟨h1, by omega, h3⟩
theorem with_snoc {ls zs : List HLay} {k : Nat} {ev : Int} (hk : k < ls.length) (h : zs.map HLay.v = ((ls.take k).map HLay.v).map (movL ev)) (ao : Option Addr) (b c : Nat) : (zs ++ [(⟨⟨(nth ls k).v.bill, (nth ls k).v.tons, (nth ls k).v.path ++ [ev]⟩, ao, b, c⟩ : HLay)]).map HLay.v = ((ls.take (k + 1)).map HLay.v).map (movL ev) := by
  rw [take_nth hk, List.map_append, List.map_append, List.map_append, h]; rfl
theorem with_path {zs : List HLay} {w : World} {x : HLay} (h : ∀ z ∈ zs, Sl encI 1 w z.ao z.b 0 z.v.path) (hx : Sl encI 1 w x.ao x.b 0 x.v.path) : ∀ z ∈ zs ++ [x], Sl encI 1 w z.ao z.b 0 z.v.path := fun z hz => by
  rcases List.mem_append.1 hz with hz | hz
  · exact h z hz
  · have : z = x := by simpa using hz
    subst this; exact hx
theorem own77 : Own Try.prog 77 := ⟨Try.f77, Try.func77, by kernel_rfl, by kernel_rfl⟩

set_option maxHeartbeats 2000000 in
theorem with_c (ls : List HLay) (ao : Option Addr) (b o cap : Nat) (ev : Int) (w0 : World) (hs : Sl encHLay 3 w0 ao b o ls) (hp : ∀ x ∈ ls, Sl encI 1 w0 x.ao x.b 0 x.v.path) (hl : ls.length ≤ 1000000) (hpl : ∀ x ∈ ls, x.v.path.length ≤ 100000) :
    CallsV Try.prog 77 [.slice ao ls.length cap, .int .i64 ev] w0 (fun v w' => ∃ ao1 g1 c1 zs, v = .slice ao1 (List.length zs) c1 ∧ zs.map HLay.v = (ls.map HLay.v).map (movL ev) ∧ LaysR w' ao1 g1 zs ∧ (∀ z ∈ zs, 0 < z.v.path.length → w0.heap.size ≤ z.b) ∧ w0.heap.size ≤ g1 ∧ Ext w0 w') := by
 refine f_enter (N := 39) Try.func77 rfl rfl rfl (c_seq fun K1 hK1 => (c_region (t_assign rfl rfl rfl (t_nil' (hK1 _ _ (c_seq fun K2 hK2 => (c_region (t_bslice (ps := []) (cs := []) (e := 97) rfl rfl ⟨rfl, rfl⟩ (fun w => by kernel_rfl) (fun bk3 w4 ebk3 sbk3 B5 u6 => ?_)))))))))
 have zu6 := u6.size
 refine t_assign rfl rfl rfl (t_nil' (hK2 _ _ (c_seq fun K8 hK8 => (c_seq fun K9 hK9 => (c_region (t_assign rfl rfl rfl (t_nil' (hK9 _ _ (c_block ?_)))))))))
 have hl5 := B5.lt
 have hac5 : Acc encHLay 3 97 bk3 w4 (some ⟨bk3, 0, none⟩) bk3 0 [] := Acc.ofBlk (xs := ([] : List HLay)) encHLay 3 (fun _ => rfl) B5 (Nat.le_refl _) (by decide)
 refine c_loop (γ := Nat × Option Addr × Nat × Nat × List HLay) (fun gg => [(0, .slice ao ls.length cap), (1, .int .i64 ev), (5, .slice gg.2.1 gg.2.2.2.2.length gg.2.2.2.1), (6, .int .i64 (gg.1 : Int))]) (fun gg w => Upd (fun i => i = bk3) w4 w ∧ (gg.1 ≤ ls.length) ∧ (gg.2.2.2.2.length = gg.1) ∧ (gg.2.2.2.2.map HLay.v = ((ls.take gg.1).map HLay.v).map (movL ev)) ∧ (∀ z ∈ gg.2.2.2.2, Sl encI 1 w z.ao z.b 0 z.v.path) ∧ (∀ z ∈ gg.2.2.2.2, 0 < z.v.path.length → w4.heap.size ≤ z.b ∧ z.b ≠ gg.2.2.1) ∧ (Acc encHLay 3 97 bk3 w gg.2.1 gg.2.2.1 gg.2.2.2.1 gg.2.2.2.2) ∧ (gg.2.2.1 = bk3 ∨ w4.heap.size ≤ gg.2.2.1)) (fun gg => ls.length - gg.1) (0, some ⟨bk3, 0, none⟩, bk3, 0, []) ⟨rfl, rfl, rfl, rfl, trivial⟩ ⟨Upd.refl _ _, (Nat.zero_le _), rfl, rfl, (fun z hz => by cases hz), (fun z hz => by cases hz), hac5, (.inl rfl)⟩ ?_
 intro gg w11 hW K10 hK10
 obtain ⟨k, ao5, g5, c5, zs⟩ := gg
 change WC _ _ _ _ _ _ [(0, .slice ao ls.length cap), (1, .int .i64 ev), (5, .slice ao5 zs.length c5), (6, .int .i64 (k : Int))] _
 change Upd (fun i => i = bk3) w4 w11 ∧ (k ≤ ls.length) ∧ (zs.length = k) ∧ (zs.map HLay.v = ((ls.take k).map HLay.v).map (movL ev)) ∧ (∀ z ∈ zs, Sl encI 1 w11 z.ao z.b 0 z.v.path) ∧ (∀ z ∈ zs, 0 < z.v.path.length → w4.heap.size ≤ z.b ∧ z.b ≠ g5) ∧ (Acc encHLay 3 97 bk3 w11 ao5 g5 c5 zs) ∧ (g5 = bk3 ∨ w4.heap.size ≤ g5) at hW
 obtain ⟨u12, I13, I14, I15, I16, I17, I18, I19⟩ := hW
 have zu12 := u12.size
 have E20 := ((Upd.refl (fun _ => False) w0).nx u6).next u12 (fun i hi h => by omega)
 have hk := I13; clear I13
 have hzl := I14; clear I14
 have hzv := I15; clear I15
 have hzp := I16; clear I16
 have hza := I17; clear I17
 have hzs := I18; clear I18
 have hg5 := I19; clear I19
 have lt_g5 := hzs.lt
 refine c_seq fun K21 hK21 => (c_seq fun K22 hK22 => (c_region (t_move rfl rfl rfl (t_move rfl rfl rfl (t_len Try.underlying36 rfl rfl rfl rfl (t_cmp rfl rfl rfl rfl rfl (t_nil' (hK22 _ _ (c_condp rfl (fun g11 => ?_) (fun g11 => ?_))))))))))
 ·
  refine c_skip (hK21 _ _ (c_seq fun K23 hK23 => (c_block ?_)))
  have hpk := hpl _ (nth_mem (xs := ls) (i := k) (by omega))
  refine c_drawnS follows 25 23 [some (14, some (.slice ao5 zs.length c5)), some (15, some (.slice ao ls.length cap)), some (16, some (.int .i64 (k : Int))), some (17, some (.pointer (some ⟨b, o + k * 3, none⟩))), some (18, some (.pointer (some ⟨b, o + k * 3 + 0, none⟩))), some (19, some (.int .i64 ((nth ls k).v.bill))), some (20, some (.slice ao ls.length cap)), some (21, some (.int .i64 (k : Int))), some (22, some (.pointer (some ⟨b, o + k * 3, none⟩))), some (23, some (.pointer (some ⟨b, o + k * 3 + 1, none⟩))), some (24, some (.int .i64 ((nth ls k).v.tons))), some (25, none), some (26, some (.slice ao ls.length cap)), some (27, some (.int .i64 (k : Int))), some (28, some (.pointer (some ⟨b, o + k * 3, none⟩))), some (29, some (.pointer (some ⟨b, o + k * 3 + 2, none⟩))), some (30, some (.slice ((nth ls k).ao) (((nth ls k).v.path).length) ((nth ls k).cap))), some (31, none), some (32, some (.int .i64 ev)), some (33, none), some (34, none), some (35, none), some (36, none)] [[],[],[],[1,2],[3],[4],[],[],[6,7],[8],[9],[],[],[],[12,13],[14],[15],[11,16],[],[18],[17,19,17],[5,10,20],[21],[0,22,20],[23,23,0,1,2,3,4,5,6,7,8,9,10,11,12,13,14,15,16,17,18,19,20,21,22,23]] (fun D ρ w => Upd (fun _ => False) w11 w ∧ (D 11 = true → ∃ bE, ρ 11 = .slice (some ⟨bE, 0, none⟩) 0 0 ∧ (D 17 = false → (Blk w bE 3 [] ∧ w11.heap.size ≤ bE))) ∧ (D 17 = true → ∃ aoC gC cC, ρ 17 = .slice aoC (((nth ls k).v.path).length) cC ∧ (D 20 = false → Acc encI 1 3 w11.heap.size w aoC gC cC ((nth ls k).v.path))) ∧ (D 19 = true → ∃ bV, ρ 19 = .slice (some ⟨bV, 0, none⟩) 1 1 ∧ (D 20 = false → (Blk w bV 3 [.int .i64 ev] ∧ w11.heap.size ≤ bV))) ∧ (D 20 = true → ∃ aoP gP cP, ρ 20 = .slice aoP (((nth ls k).v.path ++ [ev]).length) cP ∧ (Sl encI 1 w aoP gP 0 ((nth ls k).v.path ++ [ev]) ∧ w11.heap.size ≤ gP) ∧ (D 21 = true → ρ 21 = .agg #[.int .i64 ((nth ls k).v.bill), .int .i64 ((nth ls k).v.tons), .slice aoP (((nth ls k).v.path ++ [ev]).length) cP])) ∧ (D 22 = true → ∃ aoQ gQ cQ bQ, ρ 22 = .slice (some ⟨bQ, 0, none⟩) 1 1 ∧ (Blk w bQ 97 [.int .i64 (nth ls k).v.bill, .int .i64 (nth ls k).v.tons, .slice aoQ ((nth ls k).v.path ++ [ev]).length cQ] ∧ Sl encI 1 w aoQ gQ 0 ((nth ls k).v.path ++ [ev]) ∧ w11.heap.size ≤ gQ ∧ w11.heap.size ≤ bQ))) rfl rfl rfl rfl (by kernel_rfl) (by kernel_rfl) (by kernel_rfl) ⟨(Upd.drew _).to, (fun h => by cases h), (fun h => by cases h), (fun h => by cases h), (fun h => by cases h), (fun h => by cases h)⟩ ⟨?_, ?_, ?_, ?_, ?_, ?_, ?_, ?_, ?_, ?_, ?_, ?_, ?_, ?_, ?_, ?_, ?_, ?_, ?_, ?_, ?_, ?_, ?_, trivial⟩ ?_
  · exact pz rfl rfl rfl rfl fun _ _ _ h => h
  · exact pz rfl rfl rfl rfl fun _ _ _ h => h
  · exact pz rfl rfl rfl rfl fun _ _ _ h => h
  ·
   intro D ρ w27 hcD hnD hdD hW
   obtain ⟨u28, F29, F30, F31, F32, F33⟩ := hW
   have zu28 := u28.size
   refine ⟨_, kf_fr [15, 16], fun Lr => ?_⟩
   have i35 : k < ls.length := (by omega)
   refine t_index (j := k) Try.underlying36 Try.sizeOf97 rfl rfl rfl rfl ((hs.keep (E20.nx u28) (fun _ h => h)).addr (by omega)) rfl i35 ?_
   exact dz rfl ⟨u28, F29, F30, F31, F32, F33⟩
  · exact pzf Try.underlying97 rfl Try.sizeOf3 (o + k * 3 + 0) rfl rfl rfl rfl rfl fun _ _ _ h => h
  ·
   intro D ρ w36 hcD hnD hdD hW
   obtain ⟨u37, F38, F39, F40, F41, F42⟩ := hW
   have zu37 := u37.size
   refine ⟨_, kf_fr [18], fun Lr => ?_⟩
   refine t_load Try.isAgg3 rfl rfl rfl (((hs.keep (E20.nx u37) (fun _ h => h)).at_ k (by omega)) 0 _ rfl) ?_
   exact dz rfl ⟨u37, F38, F39, F40, F41, F42⟩
  · exact pz rfl rfl rfl rfl fun _ _ _ h => h
  · exact pz rfl rfl rfl rfl fun _ _ _ h => h
  ·
   intro D ρ w44 hcD hnD hdD hW
   obtain ⟨u45, F46, F47, F48, F49, F50⟩ := hW
   have zu45 := u45.size
   refine ⟨_, kf_fr [20, 21], fun Lr => ?_⟩
   have i52 : k < ls.length := (by omega)
   refine t_index (j := k) Try.underlying36 Try.sizeOf97 rfl rfl rfl rfl ((hs.keep (E20.nx u45) (fun _ h => h)).addr (by omega)) rfl i52 ?_
   exact dz rfl ⟨u45, F46, F47, F48, F49, F50⟩
  · exact pzf Try.underlying97 rfl Try.sizeOf3 (o + k * 3 + 1) rfl rfl rfl rfl rfl fun _ _ _ h => h
  ·
   intro D ρ w53 hcD hnD hdD hW
   obtain ⟨u54, F55, F56, F57, F58, F59⟩ := hW
   have zu54 := u54.size
   refine ⟨_, kf_fr [23], fun Lr => ?_⟩
   refine t_load Try.isAgg3 rfl rfl rfl (((hs.keep (E20.nx u54) (fun _ h => h)).at_ k (by omega)) 1 _ rfl) ?_
   exact dz rfl ⟨u54, F55, F56, F57, F58, F59⟩
  ·
   intro D ρ w61 hcD hnD hdD hW
   obtain ⟨u62, F63, F64, F65, F66, F67⟩ := hW
   have zu62 := u62.size
   refine ⟨[], trivial, fun Lr => ?_⟩
   refine t_bslice (ps := []) (cs := []) (e := 3) rfl rfl ⟨rfl, rfl⟩ (fun w => by kernel_rfl) (fun bE w69 ebE sbE B71 u70 => ?_)
   have zu70 := u70.size
   exact dzn rfl ⟨(u62.next u70 (fun _ _ h => h.elim)), (fun _ => ⟨bE, rfl, fun _ => ⟨B71, by omega⟩⟩), (fun h => absurd ((hcD.late 17 hnD rfl).symm.trans h) (by decide)), (fun h => by obtain ⟨bV, e, hB⟩ := F65 h; exact ⟨bV, e, fun h2 => ⟨((hB h2).1.keep u70 (fun h => h)), (hB h2).2⟩⟩), (fun h => absurd ((hcD.late 20 (hcD.late 17 hnD rfl) rfl).symm.trans h) (by decide)), (fun h => absurd ((hcD.late 22 (hcD.late 21 (hcD.late 20 (hcD.late 17 hnD rfl) rfl) rfl) rfl).symm.trans h) (by decide))⟩
  · exact pz rfl rfl rfl rfl fun _ _ _ h => h
  · exact pz rfl rfl rfl rfl fun _ _ _ h => h
  ·
   intro D ρ w73 hcD hnD hdD hW
   obtain ⟨u74, F75, F76, F77, F78, F79⟩ := hW
   have zu74 := u74.size
   refine ⟨_, kf_fr [26, 27], fun Lr => ?_⟩
   have i81 : k < ls.length := (by omega)
   refine t_index (j := k) Try.underlying36 Try.sizeOf97 rfl rfl rfl rfl ((hs.keep (E20.nx u74) (fun _ h => h)).addr (by omega)) rfl i81 ?_
   exact dz rfl ⟨u74, F75, F76, F77, F78, F79⟩
  · exact pzf Try.underlying97 rfl Try.sizeOf45 (o + k * 3 + 2) rfl rfl rfl rfl rfl fun _ _ _ h => h
  ·
   intro D ρ w82 hcD hnD hdD hW
   obtain ⟨u83, F84, F85, F86, F87, F88⟩ := hW
   have zu83 := u83.size
   refine ⟨_, kf_fr [29], fun Lr => ?_⟩
   refine t_load Try.isAgg45 rfl rfl rfl (((hs.keep (E20.nx u83) (fun _ h => h)).at_ k (by omega)) 2 _ rfl) ?_
   exact dz rfl ⟨u83, F84, F85, F86, F87, F88⟩
  ·
   intro D ρ w90 hcD hnD hdD hW
   obtain ⟨u91, F92, F93, F94, F95, F96⟩ := hW
   have zu91 := u91.size
   obtain ⟨bE, e98, H99⟩ := F92 (hdD 11 rfl)
   have H100 := H99 hnD
   have agebE := H100.2
   have ltbE := H100.1.lt
   refine ⟨[(25, .slice (some ⟨bE, 0, none⟩) 0 0), (30, .slice ((nth ls k).ao) (((nth ls k).v.path).length) ((nth ls k).cap))], ⟨fi 11 rfl rfl e98.symm, fi 16 rfl rfl rfl, trivial⟩, fun Lr => ?_⟩
   refine t_copyE (enc := encI) (z := .int .i64 0) (bytes := 8) (k := 1) (ys := (nth ls k).v.path) Try.underlying45 (by kernel_rfl) rfl (by decide) (fun _ => rfl) (by intro x; simp [encI, Value.oneCell']) rfl rfl rfl rfl H100.1 ((hp (nth ls k) (nth_mem (by omega))).keep (E20.nx u91) (fun _ h => h)) (by omega) (by decide) (fun aoC gC cC w101 A103 u102 geC => ?_)
   have zu102 := u102.size
   exact dzn rfl ⟨(u91.next u102 (fun _ _ h => h.elim)), (fun h => by obtain ⟨bE, e, _⟩ := F92 h; exact ⟨bE, e, fun h => by cases h⟩), (fun _ => ⟨aoC, gC, cC, rfl, fun _ => A103.rebase (by omega) (by omega)⟩), (fun h => by obtain ⟨bV, e, hB⟩ := F94 h; exact ⟨bV, e, fun h2 => ⟨((hB h2).1.keep u102 (fun h => h)), (hB h2).2⟩⟩), (fun h => absurd ((hcD.late 20 hnD rfl).symm.trans h) (by decide)), (fun h => absurd ((hcD.late 22 (hcD.late 21 (hcD.late 20 hnD rfl) rfl) rfl).symm.trans h) (by decide))⟩
  · exact pz rfl rfl rfl rfl fun _ _ _ h => h
  ·
   intro D ρ w105 hcD hnD hdD hW
   obtain ⟨u106, F107, F108, F109, F110, F111⟩ := hW
   have zu106 := u106.size
   refine ⟨_, kf_fr [32], fun Lr => ?_⟩
   refine t_bslice (ps := [(0, .int .i64 ev)]) (cs := [.int .i64 ev]) (e := 3) rfl rfl ⟨rfl, rfl⟩ (fun w => by kernel_rfl) (fun bV w113 ebV sbV B115 u114 => ?_)
   have zu114 := u114.size
   exact dzn rfl ⟨(u106.next u114 (fun _ _ h => h.elim)), (fun h => by obtain ⟨bE, e, hB⟩ := F107 h; exact ⟨bE, e, fun h2 => ⟨((hB h2).1.keep u114 (fun h => h)), (hB h2).2⟩⟩), (fun h => by obtain ⟨aoC, gC, cC, e, hB⟩ := F108 h; exact ⟨aoC, gC, cC, e, fun h2 => ((hB h2).keep u114 (fun _ h => h))⟩), (fun _ => ⟨bV, rfl, fun _ => ⟨B115, by omega⟩⟩), (fun h => absurd ((hcD.late 20 hnD rfl).symm.trans h) (by decide)), (fun h => absurd ((hcD.late 22 (hcD.late 21 (hcD.late 20 hnD rfl) rfl) rfl).symm.trans h) (by decide))⟩
  ·
   intro D ρ w117 hcD hnD hdD hW
   obtain ⟨u118, F119, F120, F121, F122, F123⟩ := hW
   have zu118 := u118.size
   obtain ⟨aoC, gC, cC, e125, H126⟩ := F120 (hdD 17 rfl)
   have H127 := H126 hnD
   have ltC := H127.lt
   obtain ⟨bV, e128, H129⟩ := F121 (hdD 19 rfl)
   have H130 := H129 hnD
   have agebV := H130.2
   have ltbV := H130.1.lt
   refine ⟨[(31, .slice aoC (((nth ls k).v.path).length) cC), (33, .slice (some ⟨bV, 0, none⟩) 1 1)], ⟨fi 17 rfl rfl e125.symm, fi 19 rfl rfl e128.symm, trivial⟩, fun Lr => ?_⟩
   refine t_append (z := .int .i64 0) (bytes := 8) (k := 1) (base := w11.heap.size) ev Try.underlying45 (by kernel_rfl) rfl (by decide) (fun _ => rfl) (by intro x; simp [encI, Value.oneCell']) rfl rfl rfl rfl H127 H130.1 (by omega) (by omega) (by decide) (fun aoP gP cP w131 A133 u132 geP lnP => ?_)
   have zu132 := u132.size
   exact dzn rfl ⟨(u118.next u132 (fun i hi h => by omega)), (fun h => by obtain ⟨bE, e, _⟩ := F119 h; exact ⟨bE, e, fun h2 => absurd ((hdD 17 rfl).symm.trans h2) (by decide)⟩), (fun h => by obtain ⟨aoC, gC, cC, e, _⟩ := F120 h; exact ⟨aoC, gC, cC, e, fun h => by cases h⟩), (fun h => by obtain ⟨bV, e, _⟩ := F121 h; exact ⟨bV, e, fun h => by cases h⟩), (fun _ => ⟨aoP, gP, cP, rfl, ⟨A133.sl (fun _ => rfl), A133.base_le (by simp)⟩, (fun h => absurd ((hcD.late 21 hnD rfl).symm.trans h) (by decide))⟩), (fun h => absurd ((hcD.late 22 (hcD.late 21 hnD rfl) rfl).symm.trans h) (by decide))⟩
  ·
   intro D ρ w135 hcD hnD hdD hW
   obtain ⟨u136, F137, F138, F139, F140, F141⟩ := hW
   have zu136 := u136.size
   obtain ⟨aoP, gP, cP, e143, H144, k145⟩ := F140 (hdD 20 rfl)
   have ageP := H144.2
   refine ⟨[(19, .int .i64 ((nth ls k).v.bill)), (24, .int .i64 ((nth ls k).v.tons)), (34, .slice aoP (((nth ls k).v.path ++ [ev]).length) cP)], ⟨fi 5 rfl rfl rfl, fi 10 rfl rfl rfl, fi 20 rfl rfl e143.symm, trivial⟩, fun Lr => ?_⟩
   refine t_build (ps := [(0, .int .i64 ((nth ls k).v.bill)), (1, .int .i64 ((nth ls k).v.tons)), (2, .slice aoP (((nth ls k).v.path ++ [ev]).length) cP)]) (v := .agg #[.int .i64 ((nth ls k).v.bill), .int .i64 ((nth ls k).v.tons), .slice aoP (((nth ls k).v.path ++ [ev]).length) cP]) rfl rfl ⟨rfl, rfl⟩ (fun w => by kernel_rfl) ?_
   exact dzn rfl ⟨u136, F137, F138, F139, (fun _ => ⟨aoP, gP, cP, e143, H144, (fun _ => rfl)⟩), F141⟩
  ·
   intro D ρ w146 hcD hnD hdD hW
   obtain ⟨u147, F148, F149, F150, F151, F152⟩ := hW
   have zu147 := u147.size
   obtain ⟨aoP, gP, cP, e154, H155, k156⟩ := F151 (hcD 21 (hdD 21 rfl) 20 (memB_iff.1 rfl))
   have ageP := H155.2
   refine ⟨[(35, .agg #[.int .i64 ((nth ls k).v.bill), .int .i64 ((nth ls k).v.tons), .slice aoP (((nth ls k).v.path ++ [ev]).length) cP])], ⟨fi 21 rfl rfl (k156 (hdD 21 rfl)).symm, trivial⟩, fun Lr => ?_⟩
   refine t_bslice (ps := [(0, .agg #[.int .i64 ((nth ls k).v.bill), .int .i64 ((nth ls k).v.tons), .slice aoP (((nth ls k).v.path ++ [ev]).length) cP])]) (cs := [.int .i64 (nth ls k).v.bill, .int .i64 (nth ls k).v.tons, .slice aoP ((nth ls k).v.path ++ [ev]).length cP]) (e := 97) rfl rfl ⟨rfl, rfl⟩ (fun w => by kernel_rfl) (fun bQ w157 ebQ sbQ B159 u158 => ?_)
   have zu158 := u158.size
   have D161 := (H155.1.keep u158 (fun _ h => h))
   exact dzn rfl ⟨(u147.next u158 (fun _ _ h => h.elim)), (fun h => by obtain ⟨bE, e, hB⟩ := F148 h; exact ⟨bE, e, fun h2 => ⟨((hB h2).1.keep u158 (fun h => h)), (hB h2).2⟩⟩), (fun h => by obtain ⟨aoC, gC, cC, e, hB⟩ := F149 h; exact ⟨aoC, gC, cC, e, fun h2 => ((hB h2).keep u158 (fun _ h => h))⟩), (fun h => by obtain ⟨bV, e, hB⟩ := F150 h; exact ⟨bV, e, fun h2 => ⟨((hB h2).1.keep u158 (fun h => h)), (hB h2).2⟩⟩), (fun h => by obtain ⟨aoP, gP, cP, e, hB, k21_⟩ := F151 h; exact ⟨aoP, gP, cP, e, ⟨(hB.1.keep u158 (fun _ h => h)), hB.2⟩, k21_⟩), (fun _ => ⟨aoP, gP, cP, bQ, rfl, ⟨B159, D161, ageP, by omega⟩⟩)⟩
  intro ρ w162 hW
  obtain ⟨u163, F164, F165, F166, F167, F168⟩ := hW
  have zu163 := u163.size
  obtain ⟨aoP, gP, cP, e173, H174, k175⟩ := F167 rfl
  have ageP := H174.2
  obtain ⟨aoQ, gQ, cQ, bQ, e176, H177⟩ := F168 rfl
  have ageQ := H177.2.2.1
  have ageB := H177.2.2.2
  have ltB := H177.1.lt
  have ltQ := H177.2.1.lt (by simp)
  refine t_weak [(0, .slice ao ls.length cap), (1, .int .i64 ev), (6, .int .i64 (k : Int)), (14, .slice ao5 zs.length c5), (36, .slice (some ⟨bQ, 0, none⟩) 1 1)] ⟨rfl, rfl, rfl, rfl, (look_nd (j := 22) rfl rfl rfl e176), trivial⟩ ?_
  have D178 := (hzs.keep u163 (fun _ h => h))
  refine t_append (z := .agg #[.int .i64 0, .int .i64 0, .slice none 0 0]) (bytes := 40) (k := 3) (base := bk3) (⟨⟨(nth ls k).v.bill, (nth ls k).v.tons, (nth ls k).v.path ++ [ev]⟩, aoQ, gQ, cQ⟩ : HLay) Try.underlying36 (by kernel_rfl) rfl (by decide) (fun _ => rfl) (by intro x; simp [encHLay, Value.oneCell']) rfl rfl rfl rfl D178 H177.1 (by omega) (by omega) (by decide) (fun ao179 gb180 cp181 w182 A183 u184 gegb180 lngb180 => ?_)
  have zu184 := u184.size
  have lt_gb180 := A183.lt
  refine t_assign rfl rfl rfl (t_nil' (hK23 _ _ (c_region (t_move rfl rfl rfl (t_ari rfl rfl rfl rfl rfl (by omega) (t_assign rfl rfl rfl (t_nil' ?_)))))))
  have D186 := (fun z hz => ((fun z hz => (hzp z hz).keep u163 (fun _ h => h)) z hz).keep u184 (fun hp => by have h9 := hza z hz hp; show ¬ ((z.b = g5 ∧ bk3 ≤ z.b)); omega))
  have D187 := (H177.2.1.keep u184 (fun _ => by show ¬ ((gQ = g5 ∧ bk3 ≤ gQ)); omega))
  exact hK10 (k + 1, ao179, gb180, cp181, (zs ++ [(⟨⟨(nth ls k).v.bill, (nth ls k).v.tons, (nth ls k).v.path ++ [ev]⟩, aoQ, gQ, cQ⟩ : HLay)])) _ _ (by show ls.length - (k + 1) < ls.length - k; omega) ⟨rfl, rfl, rfl, rfl, trivial⟩ ⟨((u12.next u163 (fun _ _ h => h.elim)).next u184 (fun i hi h => by omega)), (by omega), (by simp [hzl]), (with_snoc (by omega) hzv _ _ _), (with_path D186 D187), (fun z hz hp9 => by
    rcases List.mem_append.1 hz with hz | hz
    · have h9 := hza z hz hp9
      have h8 := (hzp z hz).lt hp9
      show _ ≤ z.b ∧ z.b ≠ gb180
      omega
    · have e9 : z = (⟨⟨(nth ls k).v.bill, (nth ls k).v.tons, (nth ls k).v.path ++ [ev]⟩, aoQ, gQ, cQ⟩ : HLay) := by simpa using hz
      subst e9
      show _ ≤ gQ ∧ gQ ≠ gb180
      omega), A183, (by show gb180 = bk3 ∨ _ ≤ gb180; omega)⟩
 refine c_exit (hK8 _ _ (c_seq fun K188 hK188 => (c_region (t_move rfl rfl rfl (t_assign rfl rfl rfl (t_nil' (hK188 _ _ (c_ret (f_ret1 (v := .slice ao5 zs.length c5) Try.results77 rfl ?_)))))))))
 exact ⟨ao5, g5, c5, zs, rfl, by rw [hzv, List.take_of_length_le (by omega)], ⟨hzs.sl (fun _ => rfl), hzp⟩, (fun z hz hp9 => by have h9 := hza z hz hp9; omega), by omega, E20⟩

end Go.Proofs.Ytgkkgpenmppjcaa
