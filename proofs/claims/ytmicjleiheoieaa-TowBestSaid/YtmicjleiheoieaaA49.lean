/-
  The law TowBest returns true. Conditions: none.
-/
import Derived.Test.YtmicjleiheoieaaA13
import Derived.Test.YtmicjleiheoieaaA27
import Derived.Test.YtmicjleiheoieaaA48
import Derived.Test.YtmicjleiheoieaaSet
namespace Go.Proofs.Ytmicjleiheoieaa
open Go Go.RowKit

theorem permV_snocN {vl : List Voy} {pk : List Int} (k : Nat) : permV vl (pk ++ [(k : Int)]) = permV vl pk ++ [nth vl k] := by simp [permV]
theorem permV_snocI {vl : List Voy} {pk : List Int} (j : Int) : permV vl (pk ++ [j]) = permV vl pk ++ [nth vl j.toNat] := by simp [permV]
theorem permV_len {vl : List Voy} {pk : List Int} : (permV vl pk).length = pk.length := by simp [permV]
theorem permV_runs {vl : List Voy} {pk : List Int} {B : Nat} (h : ∀ v ∈ vl, v.runs.length ≤ B) (hok : ∀ j ∈ pk, 0 ≤ j ∧ j < vl.length) : ∀ v ∈ permV vl pk, v.runs.length ≤ B := fun v hv => by
  unfold permV at hv
  obtain ⟨j, hj, rfl⟩ := List.mem_map.1 hv
  have := hok j hj
  exact h _ (nth_mem (by omega))
/-- The next place, around n. -/
def nxt (k n : Nat) : Nat := if k + 1 = n then 0 else k + 1
/-- How many steps from k to f, around n. -/
def dst (f n k : Nat) : Nat := if k ≤ f then f - k else f + n - k
theorem nxt_lt {k n : Nat} (h : k < n) : nxt k n < n := by unfold nxt; split <;> omega
theorem nxt_rem {k n : Nat} (h : k < n) : ((k : Int) + 1) % (n : Int) = ((nxt k n : Nat) : Int) := by
  unfold nxt
  split
  · rename_i e
    rw [show (k : Int) + 1 = (n : Int) by omega, Int.emod_self]; rfl
  · rw [Int.emod_eq_of_lt (by omega) (by omega)]; omega
theorem dst_lt {f n k : Nat} (hk : k < n) (hf : f < n) (hne : k ≠ f) : dst f n (nxt k n) < dst f n k := by
  unfold dst nxt
  split
  · split
    · rw [if_neg (by omega)]; omega
    · split <;> omega
  · split <;> split <;> omega
theorem nodup_take {l : List Int} {k : Nat} (h : l.Nodup) (hk : k < l.length) : ¬ nth l k ∈ l.take k := fun hm => by
  have h1 : (l.take (k + 1)).Nodup := h.sublist (List.take_sublist _ _)
  rw [take_nth hk] at h1
  exact (List.nodup_append.1 h1).2.2 _ hm _ (by simp) rfl
theorem OrderV_c (us : List HVoy) (ao : Option Addr) (b cap : Nat) (ns : List Nar) (an : Option Addr) (bn on cn : Nat) (most : Int) (vl : List Voy) (w0 : World) (hm : us.map HVoy.v = vl) (hs : Sl encHVoy 5 w0 ao b 0 us) (hruns : ∀ x ∈ us, Sl encRun 6 w0 x.ao x.b x.o x.v.runs) (hn : Sl encNar 4 w0 an bn on ns) (hl : vl.length ≤ 1000000) (hrl : ∀ v ∈ vl, v.runs.length ≤ 1000000) (hnl : ns.length ≤ 1000000) :
    CallsV Try.prog 52 [.slice ao us.length cap, .slice an ns.length cn, .int .i64 most] w0 (fun v w' => (∃ ord ls tot e aoO bO cO aoH bH cH, v = .tuple #[.slice aoO (List.length ord) cO, .slice aoH (List.length ls) cH, .int .i64 tot, .int .i64 e] ∧ Sl encI 1 w' aoO bO 0 ord ∧ Sl encI 1 w' aoH bH 0 ls ∧ OrderA vl ns most ord ls tot e) ∧ Ext w0 w') := by
  subst hm
  exact Order_c us ns ao an b 0 bn on cap cn most w0 hs hruns (fun x hx => hrl x.v (List.mem_map.2 ⟨x, hx, rfl⟩)) hn (by rw [List.length_map] at hl; exact hl) hnl

theorem own14 : Own Try.prog 14 := ⟨Try.f14, Try.func14, by kernel_rfl, by kernel_rfl⟩

set_option maxHeartbeats 4000000 in
theorem TowBest_c (vs : List HVoy) (av : Option Addr) (bv ov cv : Nat) (ns : List Nar) (an : Option Addr) (bn on cn : Nat) (most : Int) (pc : List Int) (apc : Option Addr) (bpc opc cpc : Nat) (w0 : World) (hs : Sl encHVoy 5 w0 av bv ov vs) (hruns : ∀ x ∈ vs, Sl encRun 6 w0 x.ao x.b x.o x.v.runs) (hn : Sl encNar 4 w0 an bn on ns) (hvl : vs.length ≤ 9223372036854775807) (hnl : ns.length ≤ 9223372036854775807) (hmost : 0 ≤ most ∧ most ≤ 255) (hpc : Sl encU8 1 w0 apc bpc opc pc) (hp8 : ∀ x ∈ pc, 0 ≤ x ∧ x ≤ 255) (hpl : pc.length ≤ 9223372036854775807) :
    CallsV Try.prog 14 [.agg #[.slice av vs.length cv, .slice an ns.length cn], .int .u8 most, .slice apc pc.length cpc] w0 (fun v w' => v = .bool true ∧ Ext w0 w') := by
 have E0 := Upd.refl (fun _ => False) w0
 refine f_enter (N := 250) Try.func14 rfl rfl rfl ?_
 change WC _ _ _ _ _ _ [(0, .agg #[.slice av vs.length cv, .slice an ns.length cn]), (1, .int .u8 most), (2, .slice apc pc.length cpc)] _
 refine c_seq fun K1 hK1 => (c_region (t_box (cs := [.slice av vs.length cv, .slice an ns.length cn]) rfl rfl rfl rfl (fun bk2 w3 ebk2 sbk2 B4 u5 => ?_)))
 have zu5 := u5.size
 have E6 := E0.next u5 (fun _ _ h => h.elim)
 refine t_assign rfl rfl rfl (t_nil' (hK1 _ _ (c_seq fun K7 hK7 => (c_seq fun K8 hK8 => (c_region (t_loadN (vs := [.slice av vs.length cv, .slice an ns.length cn]) Try.isAgg37 Try.sizeOf37 rfl rfl rfl (B4.at.sub 0 2) rfl (t_call (vs := [.agg #[.slice av vs.length cv, .slice an ns.length cn]]) own22 rfl rfl rfl rfl (large_c vs av bv ov cv ns an bn on cn _ (hs.keep E6 (fun _ h => h)) (fun x hx => (hruns x hx).keep E6 (fun _ h => h)) (hn.keep E6 (fun _ h => h)) (by omega) (by omega)) (fun v9 w10 r12 => ?_))))))))
 obtain ⟨rfl, u11⟩ := r12
 have zu11 := u11.size
 have E13 := E6.next u11 (fun _ _ h => h.elim)
 refine t_move rfl rfl rfl (t_split 26 rfl (fun g26 => ?_) (fun g26 => ?_))
 ·
  refine t_skip rfl rfl rfl (t_skip rfl rfl rfl (t_skip rfl rfl rfl (t_skip rfl rfl rfl (t_pick_t rfl rfl rfl rfl (t_nil' (hK8 _ _ (c_cond_t rfl (c_seq fun K14 hK14 => (c_region (t_call (vs := []) own16 rfl rfl rfl rfl (known_c _) (fun v15 w16 r18 => ?_)))))))))))
  obtain ⟨rfl, u17⟩ := r18
  have zu17 := u17.size
  have E19 := E13.next u17 (fun _ _ h => h.elim)
  refine t_assign rfl rfl rfl (t_nil' (hK14 _ _ (c_ret (f_ret1 (v := .bool true) Try.results14 rfl ?_))))
  exact ⟨rfl, E19⟩
 ·
  refine t_field Try.underlying37 rfl Try.sizeOf34 (0) rfl rfl rfl rfl ?_
  have B20 := (B4.keep u11 (fun h => h))
  refine t_load Try.isAgg34 rfl rfl rfl (B20.get rfl) (t_len Try.underlying34 rfl rfl rfl rfl (t_cmp rfl rfl rfl rfl rfl (t_pick_f rfl rfl rfl rfl (t_nil' (hK8 _ _ (c_condp rfl (fun g31 => ?_) (fun g31 => ?_)))))))
  ·
   refine c_seq fun K21 hK21 => (c_region (t_call (vs := []) own16 rfl rfl rfl rfl (known_c _) (fun v22 w23 r25 => ?_)))
   obtain ⟨rfl, u24⟩ := r25
   have zu24 := u24.size
   have E26 := E13.next u24 (fun _ _ h => h.elim)
   refine t_assign rfl rfl rfl (t_nil' (hK21 _ _ (c_ret (f_ret1 (v := .bool true) Try.results14 rfl ?_))))
   exact ⟨rfl, E26⟩
  ·
   have hno : lrgB vs ns = false := by simpa using g26
   have hlr := lrg_no hno
   have hrl : ∀ x ∈ vs, x.v.runs.length ≤ 1000000 := fun x hx => Nat.le_trans (hlr.1 x hx) (by decide)
   have hvl2 : (vs.map HVoy.v).length ≤ 1000000 := by rw [List.length_map]; omega
   have hrl2 : ∀ v ∈ (vs.map HVoy.v), v.runs.length ≤ 1000000 := fun v hv => by obtain ⟨x, hx, rfl⟩ := List.mem_map.1 hv; exact hrl x hx
   refine c_skip (hK7 _ _ (c_seq fun K27 hK27 => (WC.weak [(1, .int .u8 most), (2, .slice apc pc.length cpc), (3, .pointer (some ⟨bk2, 0, none⟩))] ⟨rfl, rfl, rfl, trivial⟩ (c_drawn follows 18 [some (34, some (.pointer (some ⟨bk2, 0, none⟩))), some (35, some (.slice av vs.length cv)), some (36, none), some (37, some (.pointer (some ⟨bk2, 1, none⟩))), some (38, some (.slice an ns.length cn)), some (39, none), some (40, some (.int .u8 most)), some (41, some (.int .i64 most)), some (42, none), some (33, none), some (43, none), some (44, none), some (45, none), some (46, none), some (7, none), some (8, none), some (9, none), some (10, none)] [[],[0],[1],[],[3],[4,2],[],[6],[2,5,7,5],[8],[9],[9],[9],[9],[10,8,0,1,2,3,4,5,6,7,8,9,10],[11,14,0,1,2,3,4,5,6,7,8,9,10,11,14],[12,15,0,1,2,3,4,5,6,7,8,9,10,11,12,14,15],[13,16,0,1,2,3,4,5,6,7,8,9,10,11,12,13,14,15,16]] (fun D ρ w => Upd (fun _ => False) w10 w ∧ (D 2 = true → ∃ us aoU bU cpU, ρ 2 = .slice aoU us.length cpU ∧ (D 8 = false → (us.map HVoy.v = vs.map HVoy.v ∧ Sl encHVoy 5 w aoU bU 0 us ∧ ∀ x ∈ us, Sl encRun 6 w x.ao x.b x.o x.v.runs))) ∧ (D 5 = true → ∃ aoN bN cpN, ρ 5 = .slice aoN ns.length cpN ∧ (D 8 = false → Sl encNar 4 w aoN bN 0 ns)) ∧ (D 8 = true → ∃ ordA hsA totA eA aoA bA cpA aoB bB cpB, ρ 8 = .tuple #[.slice aoA (List.length ordA) cpA, .slice aoB (List.length hsA) cpB, .int .i64 totA, .int .i64 eA] ∧ (Sl encI 1 w aoA bA 0 ordA ∧ Sl encI 1 w aoB bB 0 hsA ∧ OrderA (vs.map HVoy.v) ns most ordA hsA totA eA) ∧ (D 9 = true → ρ 9 = .tuple #[.slice aoA (List.length ordA) cpA, .slice aoB (List.length hsA) cpB, .int .i64 totA, .int .i64 eA]) ∧ (D 10 = true → ρ 10 = .slice aoA (List.length ordA) cpA) ∧ (D 11 = true → ρ 11 = .slice aoB (List.length hsA) cpB) ∧ (D 12 = true → ρ 12 = .int .i64 totA) ∧ (D 13 = true → ρ 13 = .int .i64 eA) ∧ (D 14 = true → ρ 14 = .slice aoA (List.length ordA) cpA) ∧ (D 15 = true → ρ 15 = .slice aoB (List.length hsA) cpB) ∧ (D 16 = true → ρ 16 = .int .i64 totA) ∧ (D 17 = true → ρ 17 = .int .i64 eA))) rfl rfl rfl (by kernel_rfl) (by kernel_rfl) ⟨(Upd.drew _).to, (fun h => by cases h), (fun h => by cases h), (fun h => by cases h)⟩ ⟨?_, ?_, ?_, ?_, ?_, ?_, ?_, ?_, ?_, ?_, ?_, ?_, ?_, ?_, ?_, ?_, ?_, ?_, trivial⟩ ?_))))
   · exact pzf Try.underlying37 rfl Try.sizeOf34 (0) rfl rfl rfl rfl rfl fun _ _ _ h => h
   · exact fun D ρ w46 hcD hnD hdD hW => ⟨_, kf_fr [34], fun Lr => t_load Try.isAgg34 rfl rfl rfl ((B20.keep hW.1 (fun h => h)).get rfl) (dz rfl hW)⟩
   ·
    intro D ρ w53 hcD hnD hdD hW
    obtain ⟨u54, F55, F56, F57⟩ := hW
    have zu54 := u54.size
    have E58 := E13.next u54 (fun _ _ h => h.elim)
    refine ⟨_, kf_fr [35], fun Lr => ?_⟩
    refine t_call (vs := [.slice av vs.length cv]) own24 rfl rfl rfl rfl (all_c vs av bv ov cv _ (hs.keep E58 (fun _ h => h)) (fun x hx => (hruns x hx).keep E58 (fun _ h => h)) (by omega) hrl) (fun v59 w60 r62 => ?_)
    obtain ⟨⟨us, aoU, bU, cpU, rfl, hU⟩, u61⟩ := r62
    have zu61 := u61.size
    exact dzn rfl ⟨(u54.next u61 (fun _ _ h => h.elim)), (fun _ => ⟨us, aoU, bU, cpU, rfl, fun _ => hU⟩), (fun h => absurd ((hcD.late 5 hnD rfl).symm.trans h) (by decide)), (fun h => absurd ((hcD.late 8 hnD rfl).symm.trans h) (by decide))⟩
   · exact pzf Try.underlying37 rfl Try.sizeOf35 (1) rfl rfl rfl rfl rfl fun _ _ _ h => h
   · exact fun D ρ w64 hcD hnD hdD hW => ⟨_, kf_fr [37], fun Lr => t_load Try.isAgg35 rfl rfl rfl ((B20.keep hW.1 (fun h => h)).get rfl) (dz rfl hW)⟩
   ·
    intro D ρ w71 hcD hnD hdD hW
    obtain ⟨u72, F73, F74, F75⟩ := hW
    have zu72 := u72.size
    have E76 := E13.next u72 (fun _ _ h => h.elim)
    refine ⟨_, kf_fr [38], fun Lr => ?_⟩
    refine t_call (vs := [.slice an ns.length cn]) own25 rfl rfl rfl rfl (narrows_c ns an bn on cn _ (hn.keep E76 (fun _ h => h)) (by omega)) (fun v77 w78 r80 => ?_)
    obtain ⟨⟨aoN, bN, cpN, rfl, hN, _⟩, u79⟩ := r80
    have zu79 := u79.size
    exact dzn rfl ⟨(u72.next u79 (fun _ _ h => h.elim)), (fun h => by obtain ⟨us, aoU, bU, cpU, e, hB⟩ := F73 h; exact ⟨us, aoU, bU, cpU, e, fun h2 => ⟨(hB h2).1, ((hB h2).2.1.keep u79 (fun _ h => h)), fun x hx => (((hB h2).2.2 x hx).keep u79 (fun _ h => h))⟩⟩), (fun _ => ⟨aoN, bN, cpN, rfl, fun _ => hN⟩), (fun h => absurd ((hcD.late 8 hnD rfl).symm.trans h) (by decide))⟩
   · exact pz rfl rfl rfl rfl fun _ _ _ h => h
   · exact fun D ρ w82 hcD hnD hdD hW => ⟨_, kf_fr [40], fun Lr => t_conv Try.underlying5 Try.underlying3 rfl rfl rfl (IntWalk.i64_in _ (by omega)) (dz rfl hW)⟩
   ·
    intro D ρ w88 hcD hnD hdD hW
    obtain ⟨u89, F90, F91, F92⟩ := hW
    have zu89 := u89.size
    obtain ⟨us, aoU, bU, cpU, e94, H95⟩ := F90 (hdD 2 rfl)
    have H96 := H95 hnD
    obtain ⟨aoN, bN, cpN, e97, H98⟩ := F91 (hdD 5 rfl)
    have H99 := H98 hnD
    refine ⟨[(36, .slice aoU us.length cpU), (39, .slice aoN ns.length cpN), (41, .int .i64 most)], ⟨fi 2 rfl rfl e94.symm, fi 5 rfl rfl e97.symm, fi 7 rfl rfl rfl, trivial⟩, fun Lr => ?_⟩
    refine t_call (vs := [.slice aoU us.length cpU, .slice aoN ns.length cpN, .int .i64 most]) own52 rfl rfl rfl rfl (OrderV_c us aoU bU cpU ns aoN bN 0 cpN most (vs.map HVoy.v) _ H96.1 H96.2.1 (show ∀ x ∈ us, Sl encRun 6 w88 x.ao x.b x.o x.v.runs from H96.2.2) H99 hvl2 hrl2 (by omega)) (fun v100 w101 r103 => ?_)
    obtain ⟨⟨ordA, hsA, totA, eA, aoA, bA, cpA, aoB, bB, cpB, rfl, hHA⟩, u102⟩ := r103
    have zu102 := u102.size
    exact dzn rfl ⟨(u89.next u102 (fun _ _ h => h.elim)), (fun h => by obtain ⟨us, aoU, bU, cpU, e, _⟩ := F90 h; exact ⟨us, aoU, bU, cpU, e, fun h => by cases h⟩), (fun h => by obtain ⟨aoN, bN, cpN, e, _⟩ := F91 h; exact ⟨aoN, bN, cpN, e, fun h => by cases h⟩), (fun _ => ⟨ordA, hsA, totA, eA, aoA, bA, cpA, aoB, bB, cpB, rfl, hHA, (fun h => absurd ((hcD.late 9 hnD rfl).symm.trans h) (by decide)), (fun h => absurd ((hcD.late 10 (hcD.late 9 hnD rfl) rfl).symm.trans h) (by decide)), (fun h => absurd ((hcD.late 11 (hcD.late 9 hnD rfl) rfl).symm.trans h) (by decide)), (fun h => absurd ((hcD.late 12 (hcD.late 9 hnD rfl) rfl).symm.trans h) (by decide)), (fun h => absurd ((hcD.late 13 (hcD.late 9 hnD rfl) rfl).symm.trans h) (by decide)), (fun h => absurd ((hcD.late 14 hnD rfl).symm.trans h) (by decide)), (fun h => absurd ((hcD.late 15 hnD rfl).symm.trans h) (by decide)), (fun h => absurd ((hcD.late 16 hnD rfl).symm.trans h) (by decide)), (fun h => absurd ((hcD.late 17 hnD rfl).symm.trans h) (by decide))⟩)⟩
   ·
    intro D ρ w105 hcD hnD hdD hW
    obtain ⟨u106, F107, F108, F109⟩ := hW
    have zu106 := u106.size
    obtain ⟨ordA, hsA, totA, eA, aoA, bA, cpA, aoB, bB, cpB, e111, H112, k113, k114, k115, k116, k117, k118, k119, k120, k121⟩ := F109 (hdD 8 rfl)
    have hOA := H112.2.2
    refine ⟨[(42, .tuple #[.slice aoA (List.length ordA) cpA, .slice aoB (List.length hsA) cpB, .int .i64 totA, .int .i64 eA])], ⟨fi 8 rfl rfl e111.symm, trivial⟩, fun Lr => ?_⟩
    refine t_move rfl rfl rfl ?_
    exact dzn rfl ⟨u106, F107, F108, (fun _ => ⟨ordA, hsA, totA, eA, aoA, bA, cpA, aoB, bB, cpB, e111, H112, (fun _ => rfl), k114, k115, k116, k117, k118, k119, k120, k121⟩)⟩
   ·
    intro D ρ w122 hcD hnD hdD hW
    obtain ⟨u123, F124, F125, F126⟩ := hW
    have zu123 := u123.size
    obtain ⟨ordA, hsA, totA, eA, aoA, bA, cpA, aoB, bB, cpB, e128, H129, k130, k131, k132, k133, k134, k135, k136, k137, k138⟩ := F126 (hcD 9 (hdD 9 rfl) 8 (memB_iff.1 rfl))
    have hOA := H129.2.2
    refine ⟨[(33, .tuple #[.slice aoA (List.length ordA) cpA, .slice aoB (List.length hsA) cpB, .int .i64 totA, .int .i64 eA])], ⟨fi 9 rfl rfl (k130 (hdD 9 rfl)).symm, trivial⟩, fun Lr => ?_⟩
    refine t_extract (vs := [.slice aoA (List.length ordA) cpA, .slice aoB (List.length hsA) cpB, .int .i64 totA, .int .i64 eA]) rfl rfl rfl rfl ?_
    exact dzn rfl ⟨u123, F124, F125, (fun _ => ⟨ordA, hsA, totA, eA, aoA, bA, cpA, aoB, bB, cpB, e128, H129, k130, (fun _ => rfl), k132, k133, k134, k135, k136, k137, k138⟩)⟩
   ·
    intro D ρ w139 hcD hnD hdD hW
    obtain ⟨u140, F141, F142, F143⟩ := hW
    have zu140 := u140.size
    obtain ⟨ordA, hsA, totA, eA, aoA, bA, cpA, aoB, bB, cpB, e145, H146, k147, k148, k149, k150, k151, k152, k153, k154, k155⟩ := F143 (hcD 9 (hdD 9 rfl) 8 (memB_iff.1 rfl))
    have hOA := H146.2.2
    refine ⟨[(33, .tuple #[.slice aoA (List.length ordA) cpA, .slice aoB (List.length hsA) cpB, .int .i64 totA, .int .i64 eA])], ⟨fi 9 rfl rfl (k147 (hdD 9 rfl)).symm, trivial⟩, fun Lr => ?_⟩
    refine t_extract (vs := [.slice aoA (List.length ordA) cpA, .slice aoB (List.length hsA) cpB, .int .i64 totA, .int .i64 eA]) rfl rfl rfl rfl ?_
    exact dzn rfl ⟨u140, F141, F142, (fun _ => ⟨ordA, hsA, totA, eA, aoA, bA, cpA, aoB, bB, cpB, e145, H146, k147, k148, (fun _ => rfl), k150, k151, k152, k153, k154, k155⟩)⟩
   ·
    intro D ρ w156 hcD hnD hdD hW
    obtain ⟨u157, F158, F159, F160⟩ := hW
    have zu157 := u157.size
    obtain ⟨ordA, hsA, totA, eA, aoA, bA, cpA, aoB, bB, cpB, e162, H163, k164, k165, k166, k167, k168, k169, k170, k171, k172⟩ := F160 (hcD 9 (hdD 9 rfl) 8 (memB_iff.1 rfl))
    have hOA := H163.2.2
    refine ⟨[(33, .tuple #[.slice aoA (List.length ordA) cpA, .slice aoB (List.length hsA) cpB, .int .i64 totA, .int .i64 eA])], ⟨fi 9 rfl rfl (k164 (hdD 9 rfl)).symm, trivial⟩, fun Lr => ?_⟩
    refine t_extract (vs := [.slice aoA (List.length ordA) cpA, .slice aoB (List.length hsA) cpB, .int .i64 totA, .int .i64 eA]) rfl rfl rfl rfl ?_
    exact dzn rfl ⟨u157, F158, F159, (fun _ => ⟨ordA, hsA, totA, eA, aoA, bA, cpA, aoB, bB, cpB, e162, H163, k164, k165, k166, (fun _ => rfl), k168, k169, k170, k171, k172⟩)⟩
   ·
    intro D ρ w173 hcD hnD hdD hW
    obtain ⟨u174, F175, F176, F177⟩ := hW
    have zu174 := u174.size
    obtain ⟨ordA, hsA, totA, eA, aoA, bA, cpA, aoB, bB, cpB, e179, H180, k181, k182, k183, k184, k185, k186, k187, k188, k189⟩ := F177 (hcD 9 (hdD 9 rfl) 8 (memB_iff.1 rfl))
    have hOA := H180.2.2
    refine ⟨[(33, .tuple #[.slice aoA (List.length ordA) cpA, .slice aoB (List.length hsA) cpB, .int .i64 totA, .int .i64 eA])], ⟨fi 9 rfl rfl (k181 (hdD 9 rfl)).symm, trivial⟩, fun Lr => ?_⟩
    refine t_extract (vs := [.slice aoA (List.length ordA) cpA, .slice aoB (List.length hsA) cpB, .int .i64 totA, .int .i64 eA]) rfl rfl rfl rfl ?_
    exact dzn rfl ⟨u174, F175, F176, (fun _ => ⟨ordA, hsA, totA, eA, aoA, bA, cpA, aoB, bB, cpB, e179, H180, k181, k182, k183, k184, (fun _ => rfl), k186, k187, k188, k189⟩)⟩
   ·
    intro D ρ w190 hcD hnD hdD hW
    obtain ⟨u191, F192, F193, F194⟩ := hW
    have zu191 := u191.size
    obtain ⟨ordA, hsA, totA, eA, aoA, bA, cpA, aoB, bB, cpB, e196, H197, k198, k199, k200, k201, k202, k203, k204, k205, k206⟩ := F194 (hdD 8 rfl)
    have hOA := H197.2.2
    refine ⟨[(43, .slice aoA (List.length ordA) cpA)], ⟨fi 10 rfl rfl (k199 (hdD 10 rfl)).symm, trivial⟩, fun Lr => ?_⟩
    refine t_assign rfl rfl rfl ?_
    exact dzn rfl ⟨u191, F192, F193, (fun _ => ⟨ordA, hsA, totA, eA, aoA, bA, cpA, aoB, bB, cpB, e196, H197, k198, k199, k200, k201, k202, (fun _ => rfl), k204, k205, k206⟩)⟩
   ·
    intro D ρ w207 hcD hnD hdD hW
    obtain ⟨u208, F209, F210, F211⟩ := hW
    have zu208 := u208.size
    obtain ⟨ordA, hsA, totA, eA, aoA, bA, cpA, aoB, bB, cpB, e213, H214, k215, k216, k217, k218, k219, k220, k221, k222, k223⟩ := F211 (hdD 8 rfl)
    have hOA := H214.2.2
    refine ⟨[(44, .slice aoB (List.length hsA) cpB)], ⟨fi 11 rfl rfl (k217 (hdD 11 rfl)).symm, trivial⟩, fun Lr => ?_⟩
    refine t_assign rfl rfl rfl ?_
    exact dzn rfl ⟨u208, F209, F210, (fun _ => ⟨ordA, hsA, totA, eA, aoA, bA, cpA, aoB, bB, cpB, e213, H214, k215, k216, k217, k218, k219, k220, (fun _ => rfl), k222, k223⟩)⟩
   ·
    intro D ρ w224 hcD hnD hdD hW
    obtain ⟨u225, F226, F227, F228⟩ := hW
    have zu225 := u225.size
    obtain ⟨ordA, hsA, totA, eA, aoA, bA, cpA, aoB, bB, cpB, e230, H231, k232, k233, k234, k235, k236, k237, k238, k239, k240⟩ := F228 (hdD 8 rfl)
    have hOA := H231.2.2
    refine ⟨[(45, .int .i64 totA)], ⟨fi 12 rfl rfl (k235 (hdD 12 rfl)).symm, trivial⟩, fun Lr => ?_⟩
    refine t_assign rfl rfl rfl ?_
    exact dzn rfl ⟨u225, F226, F227, (fun _ => ⟨ordA, hsA, totA, eA, aoA, bA, cpA, aoB, bB, cpB, e230, H231, k232, k233, k234, k235, k236, k237, k238, (fun _ => rfl), k240⟩)⟩
   ·
    intro D ρ w241 hcD hnD hdD hW
    obtain ⟨u242, F243, F244, F245⟩ := hW
    have zu242 := u242.size
    obtain ⟨ordA, hsA, totA, eA, aoA, bA, cpA, aoB, bB, cpB, e247, H248, k249, k250, k251, k252, k253, k254, k255, k256, k257⟩ := F245 (hdD 8 rfl)
    have hOA := H248.2.2
    refine ⟨[(46, .int .i64 eA)], ⟨fi 13 rfl rfl (k253 (hdD 13 rfl)).symm, trivial⟩, fun Lr => ?_⟩
    refine t_assign rfl rfl rfl ?_
    exact dzn rfl ⟨u242, F243, F244, (fun _ => ⟨ordA, hsA, totA, eA, aoA, bA, cpA, aoB, bB, cpB, e247, H248, k249, k250, k251, k252, k253, k254, k255, k256, (fun _ => rfl)⟩)⟩
   intro ρ w258 hW
   obtain ⟨u259, F260, F261, F262⟩ := hW
   have zu259 := u259.size
   have E263 := E13.next u259 (fun _ _ h => h.elim)
   obtain ⟨ordA, hsA, totA, eA, aoA, bA, cpA, aoB, bB, cpB, e266, H267, k268, k269, k270, k271, k272, k273, k274, k275, k276⟩ := F262 rfl
   have hOA := H267.2.2
   refine QK.weak [(1, .int .u8 most), (2, .slice apc pc.length cpc), (3, .pointer (some ⟨bk2, 0, none⟩)), (7, .slice aoA (List.length ordA) cpA), (8, .slice aoB (List.length hsA) cpB), (9, .int .i64 totA), (10, .int .i64 eA)] ⟨rfl, rfl, rfl, (look_nd (j := 14) rfl rfl rfl (k273 rfl)), (look_nd (j := 15) rfl rfl rfl (k274 rfl)), (look_nd (j := 16) rfl rfl rfl (k275 rfl)), (look_nd (j := 17) rfl rfl rfl (k276 rfl)), trivial⟩ (hK27 _ _ (c_seq fun K277 hK277 => (c_region (t_bslice (ps := []) (cs := []) (e := 48) rfl rfl ⟨rfl, rfl⟩ (fun w => by kernel_rfl) (fun bk278 w279 ebk278 sbk278 B280 u281 => ?_)))))
   have zu281 := u281.size
   have E282 := E263.next u281 (fun _ _ h => h.elim)
   refine t_makemap rfl rfl (fun bk283 w284 ebk283 sbk283 M285 u286 => ?_)
   have zu286 := u286.size
   have E287 := E282.next u286 (fun _ _ h => h.elim)
   refine t_assign rfl rfl rfl (t_assign rfl rfl rfl (t_nil' (hK277 _ _ (c_seq fun K288 hK288 => (c_seq fun K289 hK289 => (c_region (t_assign rfl rfl rfl (t_nil' (hK289 _ _ (c_block ?_))))))))))
   have B290 := (B280.keep u286 (fun h => h))
   refine c_loop (γ := List Int × Option Addr × Nat × Nat × List HVoy) (fun gg => [(1, .int .u8 most), (2, .slice apc pc.length cpc), (3, .pointer (some ⟨bk2, 0, none⟩)), (7, .slice aoA (List.length ordA) cpA), (8, .slice aoB (List.length hsA) cpB), (9, .int .i64 totA), (10, .int .i64 eA), (11, .slice gg.2.1 gg.2.2.2.2.length gg.2.2.2.1), (12, .map (some bk283)), (13, .int .i64 (gg.1.length : Int))]) (fun gg w => Upd (fun i => i = bk278 ∨ i = bk283) w284 w ∧ (gg.2.2.2.2.length = gg.1.length ∧ gg.1.length ≤ vs.length) ∧ (okPick vs.length gg.1) ∧ (gg.2.2.2.2.map HVoy.v = permV (vs.map HVoy.v) gg.1) ∧ (gg.2.2.1 = bk278 ∨ bk283 < gg.2.2.1) ∧ (SetI gg.1 w bk283) ∧ (Acc encHVoy 5 48 bk278 w gg.2.1 gg.2.2.1 gg.2.2.2.1 gg.2.2.2.2) ∧ (Fam encRun 6 HVoy.ao HVoy.b HVoy.o (fun x : HVoy => x.v.runs) (bk283 + 1) gg.2.2.1 w.heap.size gg.2.2.2.2 w)) (fun gg => vs.length - gg.1.length) ([], some ⟨bk278, 0, none⟩, bk278, 0, []) ⟨rfl, rfl, rfl, rfl, rfl, rfl, rfl, rfl, rfl, rfl, trivial⟩ ⟨Upd.refl _ _, ⟨rfl, Nat.zero_le _⟩, ⟨fun j hj => (by cases hj), List.nodup_nil⟩, rfl, (.inl rfl), (SetI.ofMemo M285), (Acc.lit encHVoy 5 B290 (Nat.le_refl _)), Fam.nil⟩ ?_
   intro gg w292 hW K291 hK291
   obtain ⟨pk, ao2, g2, c2, us2⟩ := gg
   change WC _ _ _ _ _ _ [(1, .int .u8 most), (2, .slice apc pc.length cpc), (3, .pointer (some ⟨bk2, 0, none⟩)), (7, .slice aoA (List.length ordA) cpA), (8, .slice aoB (List.length hsA) cpB), (9, .int .i64 totA), (10, .int .i64 eA), (11, .slice ao2 us2.length c2), (12, .map (some bk283)), (13, .int .i64 (pk.length : Int))] _
   change Upd (fun i => i = bk278 ∨ i = bk283) w284 w292 ∧ (us2.length = pk.length ∧ pk.length ≤ vs.length) ∧ (okPick vs.length pk) ∧ (us2.map HVoy.v = permV (vs.map HVoy.v) pk) ∧ (g2 = bk278 ∨ bk283 < g2) ∧ (SetI pk w292 bk283) ∧ (Acc encHVoy 5 48 bk278 w292 ao2 g2 c2 us2) ∧ (Fam encRun 6 HVoy.ao HVoy.b HVoy.o (fun x : HVoy => x.v.runs) (bk283 + 1) g2 w292.heap.size us2 w292) at hW
   obtain ⟨u293, I294, I295, I296, I297, I298, I299, I300⟩ := hW
   have zu293 := u293.size
   have E301 := E287.next u293 (fun i hi (h : i = bk278 ∨ i = bk283) => show False by first | omega | assumption)
   have hkl := I294; clear I294
   have hok := I295; clear I295
   have hum := I296; clear I296
   have hgb := I297; clear I297
   have hset := I298; clear I298
   have hacc := I299; clear I299
   have hfam := I300; clear I300
   have lt_g2 := hacc.lt
   refine c_seq fun K302 hK302 => (c_seq fun K303 hK303 => (c_region (t_move rfl rfl rfl (t_len Try.underlying34 rfl rfl rfl rfl (t_field Try.underlying37 rfl Try.sizeOf34 (0) rfl rfl rfl rfl ?_)))))
   have B304 := ((((B20.keep u259 (fun h => h)).keep u281 (fun h => h)).keep u286 (fun h => h)).keep u293 (show ¬ (bk2 = bk278 ∨ bk2 = bk283) by first | omega | assumption))
   refine t_load Try.isAgg34 rfl rfl rfl (B304.get rfl) (t_len Try.underlying34 rfl rfl rfl rfl (t_cmp rfl rfl rfl rfl rfl (t_nil' (hK303 _ _ (c_condp rfl (fun g54 => ?_) (fun g54 => ?_))))))
   ·
    refine c_skip (hK302 _ _ (c_seq fun K305 hK305 => (c_block (c_seq fun K306 hK306 => ?_))))
    have hq := prt_rng (l := pc) (i := pk.length) hp8
    refine WC.weak [(1, .int .u8 most), (2, .slice apc pc.length cpc), (3, .pointer (some ⟨bk2, 0, none⟩)), (7, .slice aoA (List.length ordA) cpA), (8, .slice aoB (List.length hsA) cpB), (9, .int .i64 totA), (10, .int .i64 eA), (11, .slice ao2 us2.length c2), (12, .map (some bk283)), (13, .int .i64 (pk.length : Int))] ⟨rfl, rfl, rfl, rfl, rfl, rfl, rfl, rfl, rfl, rfl, trivial⟩ (c_drawn follows 11 [some (57, some (.slice apc pc.length cpc)), some (58, some (.int .i64 (pk.length : Int))), some (59, some (.int .u8 (prt pc pk.length))), some (60, some (.int .i64 (prt pc pk.length))), some (61, some (.int .i64 (pk.length : Int))), some (62, some (.int .i64 ((prt pc pk.length) + (pk.length : Int)))), some (63, some (.pointer (some ⟨bk2, 0, none⟩))), some (64, some (.slice av vs.length cv)), some (65, some (.int .i64 (vs.length : Int))), some (66, some (.int .i64 (((prt pc pk.length) + (pk.length : Int)) % (vs.length : Int)))), some (14, some (.int .i64 (((prt pc pk.length) + (pk.length : Int)) % (vs.length : Int))))] [[],[],[0,1],[2],[],[3,4],[],[6],[7],[5,8],[9,2,0,1,2,3,4,5,6,7,8,9]] (fun _ _ w => Upd (fun _ => False) w292 w) rfl rfl rfl (by kernel_rfl) (by kernel_rfl) (Upd.drew _).to ⟨?_, ?_, ?_, ?_, ?_, ?_, ?_, ?_, ?_, ?_, ?_, trivial⟩ ?_)
    · exact pz rfl rfl rfl rfl fun _ _ _ h => h
    · exact pz rfl rfl rfl rfl fun _ _ _ h => h
    ·
     intro D ρ w313 hcD hnD hdD hW
     have zhW := hW.size
     have E315 := E301.next hW (fun _ _ h => h.elim)
     refine ⟨_, kf_fr [57, 58], fun Lr => ?_⟩
     refine t_call (vs := [.slice apc pc.length cpc, .int .i64 (pk.length : Int)]) own45 rfl rfl rfl rfl (part_c pc pk.length apc bpc opc cpc _ (hpc.keep E315 (fun _ h => h)) hpl) (fun v316 w317 r319 => ?_)
     obtain ⟨rfl, u318⟩ := r319
     have zu318 := u318.size
     exact dz rfl (hW.next u318 (fun _ _ h => h.elim))
    ·
     intro D ρ w321 hcD hnD hdD hW
     have zhW := hW.size
     refine ⟨_, kf_fr [59], fun Lr => ?_⟩
     refine t_conv Try.underlying5 Try.underlying3 rfl rfl rfl (IntWalk.i64_in _ (by omega)) ?_
     exact dz rfl hW
    · exact pz rfl rfl rfl rfl fun _ _ _ h => h
    ·
     intro D ρ w324 hcD hnD hdD hW
     have zhW := hW.size
     refine ⟨_, kf_fr [60, 61], fun Lr => ?_⟩
     refine t_ari rfl rfl rfl rfl rfl (by omega) ?_
     exact dz rfl hW
    · exact pzf Try.underlying37 rfl Try.sizeOf34 (0) rfl rfl rfl rfl rfl fun _ _ _ h => h
    ·
     intro D ρ w327 hcD hnD hdD hW
     have zhW := hW.size
     refine ⟨_, kf_fr [63], fun Lr => ?_⟩
     have B330 := (B304.keep hW (fun h => h))
     refine t_load Try.isAgg34 rfl rfl rfl (B330.get rfl) ?_
     exact dz rfl hW
    ·
     intro D ρ w331 hcD hnD hdD hW
     have zhW := hW.size
     refine ⟨_, kf_fr [64], fun Lr => ?_⟩
     refine t_len Try.underlying34 rfl rfl rfl rfl ?_
     exact dz rfl hW
    ·
     intro D ρ w334 hcD hnD hdD hW
     have zhW := hW.size
     refine ⟨_, kf_fr [62, 65], fun Lr => ?_⟩
     refine t_rem rfl rfl rfl rfl (by omega) (by omega) ?_
     exact dz rfl hW
    · exact pz rfl rfl rfl rfl fun _ _ _ h => h
    intro ρ w337 hW
    have u338 : Upd (fun _ => False) w292 w337 := hW
    have zu338 := u338.size
    have E339 := E301.next u338 (fun _ _ h => h.elim)
    refine QK.weak [(1, .int .u8 most), (2, .slice apc pc.length cpc), (3, .pointer (some ⟨bk2, 0, none⟩)), (7, .slice aoA (List.length ordA) cpA), (8, .slice aoB (List.length hsA) cpB), (9, .int .i64 totA), (10, .int .i64 eA), (11, .slice ao2 us2.length c2), (12, .map (some bk283)), (13, .int .i64 (pk.length : Int)), (14, .int .i64 (((prt pc pk.length) + (pk.length : Int)) % (vs.length : Int)))] ⟨rfl, rfl, rfl, rfl, rfl, rfl, rfl, rfl, rfl, rfl, rfl, trivial⟩ (hK306 _ _ (c_seq fun K340 hK340 => (c_block ?_)))
    obtain ⟨fr, hfr, hfn⟩ := left_of hok (by omega)
    have hm1 := Int.emod_nonneg ((prt pc pk.length) + (pk.length : Int)) (b := (vs.length : Int)) (by omega)
    have hm2 := Int.emod_lt_of_pos ((prt pc pk.length) + (pk.length : Int)) (b := (vs.length : Int)) (by omega)
    refine c_loop (γ := Nat) (fun k => [(1, .int .u8 most), (2, .slice apc pc.length cpc), (3, .pointer (some ⟨bk2, 0, none⟩)), (7, .slice aoA (List.length ordA) cpA), (8, .slice aoB (List.length hsA) cpB), (9, .int .i64 totA), (10, .int .i64 eA), (11, .slice ao2 us2.length c2), (12, .map (some bk283)), (13, .int .i64 (pk.length : Int)), (14, .int .i64 (k : Int))]) (fun k w => Upd (fun _ => False) w337 w ∧ (k < vs.length)) (fun k => dst fr vs.length k) ((((prt pc pk.length) + (pk.length : Int)) % (vs.length : Int)).toNat) ⟨rfl, rfl, rfl, rfl, rfl, rfl, rfl, rfl, rfl, rfl, (congrArg some (congrArg (Value.int .i64) (by show (((prt pc pk.length) + (pk.length : Int)) % (vs.length : Int)) = (((((prt pc pk.length) + (pk.length : Int)) % (vs.length : Int)).toNat : Nat) : Int); omega))), trivial⟩ ⟨Upd.refl _ _, (by show (((prt pc pk.length) + (pk.length : Int)) % (vs.length : Int)).toNat < vs.length; omega)⟩ ?_
    intro k w342 hW K341 hK341
    obtain ⟨u343, I344⟩ := hW
    have zu343 := u343.size
    have E345 := E339.next u343 (fun _ _ h => h.elim)
    have hk := I344; clear I344
    refine c_seq fun K346 hK346 => (c_seq fun K347 hK347 => (c_region (t_move rfl rfl rfl (t_move rfl rfl rfl ?_))))
    have D348 := ((hset.keep u338 (fun h => h)).keep u343 (fun h => h))
    refine t_lookupI (ks := pk) Try.underlying3 Try.underlying105 Try.zeroValue4 rfl rfl rfl rfl D348 (t_nil' (hK347 _ _ (c_condp rfl (fun g69 => ?_) (fun g69 => ?_))))
    ·
     refine c_skip (hK346 _ _ (c_block (c_region (t_move rfl rfl rfl (t_ari rfl rfl rfl rfl rfl (by omega) (t_field Try.underlying37 rfl Try.sizeOf34 (0) rfl rfl rfl rfl ?_))))))
     have B349 := ((B304.keep u338 (fun h => h)).keep u343 (fun h => h))
     refine t_load Try.isAgg34 rfl rfl rfl (B349.get rfl) (t_len Try.underlying34 rfl rfl rfl rfl (t_rem rfl rfl rfl rfl (by omega) (by omega) (t_assign rfl rfl rfl (t_nil' ?_))))
     exact hK341 (nxt k vs.length) _ _ (dst_lt hk hfr (fun e => hfn (by rw [← e]; exact g69))) ⟨rfl, rfl, rfl, rfl, rfl, rfl, rfl, rfl, rfl, rfl, (congrArg some (congrArg (Value.int .i64) (nxt_rem hk))), trivial⟩ ⟨u343, (nxt_lt hk)⟩
    ·
     refine c_exit (hK340 _ _ (c_seq fun K350 hK350 => (c_region (t_move rfl rfl rfl (t_move rfl rfl rfl (t_mapnewI (ks := pk) Try.underlying3 Try.underlying105 rfl rfl rfl rfl D348 g69 (fun w351 ew351 M352 u353 => ?_)))))))
     have zu353 := u353.size
     have E354 := E345.next u353 (fun i hi (h : i = bk283) => show False by first | omega | assumption)
     refine t_nil' (hK350 _ _ (c_region (t_move rfl rfl rfl (t_field Try.underlying37 rfl Try.sizeOf34 (0) rfl rfl rfl rfl ?_))))
     have B355 := (((B304.keep u338 (fun h => h)).keep u343 (fun h => h)).keep u353 (show ¬ (bk2 = bk283) by first | omega | assumption))
     refine t_load Try.isAgg34 rfl rfl rfl (B355.get rfl) (t_move rfl rfl rfl ?_)
     have i356 : k < vs.length := (by omega)
     refine t_index (j := k) Try.underlying34 Try.sizeOf48 rfl rfl rfl rfl ((hs.keep E354 (fun _ h => h)).addr (by omega)) rfl i356 (t_loadN (vs := [.int .i64 ((nth vs k).v.st.lo), .int .i64 ((nth vs k).v.st.hi), .slice ((nth vs k).ao) (((nth vs k).v.runs).length) ((nth vs k).cap), .int .i64 ((nth vs k).v.len), .int .i64 ((nth vs k).v.wid)]) Try.isAgg48 Try.sizeOf48 rfl rfl rfl (((hs.keep E354 (fun _ h => h)).at_ k (by omega)).sub 0 5) rfl ?_)
     have hrk := hrl _ (nth_mem (xs := vs) (i := k) (by omega))
     refine t_call (vs := [.agg #[.int .i64 ((nth vs k).v.st.lo), .int .i64 ((nth vs k).v.st.hi), .slice ((nth vs k).ao) (((nth vs k).v.runs).length) ((nth vs k).cap), .int .i64 ((nth vs k).v.len), .int .i64 ((nth vs k).v.wid)]]) own28 rfl rfl rfl rfl (copied_c (nth vs k).v (nth vs k).ao (nth vs k).b (nth vs k).o (nth vs k).cap _ ((hruns (nth vs k) (nth_mem (by omega))).keep E354 (fun _ h => h)) (by omega)) (fun v358 w359 r361 => ?_)
     obtain ⟨⟨aoC357, bC357, cpC357, rfl, hC357, gebC357⟩, u360⟩ := r361
     have zu360 := u360.size
     refine t_bslice (ps := [(0, .agg #[.int .i64 ((nth vs k).v.st.lo), .int .i64 ((nth vs k).v.st.hi), .slice aoC357 (((nth vs k).v.runs).length) cpC357, .int .i64 ((nth vs k).v.len), .int .i64 ((nth vs k).v.wid)])]) (cs := [.int .i64 ((nth vs k).v.st.lo), .int .i64 ((nth vs k).v.st.hi), .slice aoC357 (((nth vs k).v.runs).length) cpC357, .int .i64 ((nth vs k).v.len), .int .i64 ((nth vs k).v.wid)]) (e := 48) rfl rfl ⟨rfl, rfl⟩ (fun w => by kernel_rfl) (fun bk363 w364 ebk363 sbk363 B365 u366 => ?_)
     have zu366 := u366.size
     have D368 := (((((hacc.keep u338 (fun _ h => h)).keep u343 (fun _ h => h)).keep u353 (fun hb => show ¬ (g2 = bk283) by first | omega | assumption)).keep u360 (fun _ h => h)).keep u366 (fun _ h => h))
     have D369 := (((((hfam.keep u338 (fun _ _ _ _ h => h)).keep u343 (fun _ _ _ _ h => h)).keep u353 (fun i h1 h2 h3 => show ¬ (i = bk283) by omega)).keep u360 (fun _ _ _ _ h => h)).keep u366 (fun _ _ _ _ h => h))
     have D370 := (hC357.keep u366 (fun _ h => h))
     have hnf := D369
     have hns := D370
     have hna := D368
     have hnl := hna.lt
     refine t_append (z := .agg #[.int .i64 0, .int .i64 0, .slice none 0 0, .int .i64 0, .int .i64 0]) (bytes := 56) (k := 5) (base := bk278) (⟨(nth vs k).v, aoC357, bC357, 0, cpC357⟩ : HVoy) Try.underlying34 (by kernel_rfl) rfl (by decide) (fun _ => rfl) (by intro x; simp [encHVoy, Value.oneCell']) rfl rfl rfl rfl D368 B365 (by omega) (by omega) (by decide) (fun ao371 gb372 cp373 w374 A375 u376 gegb372 lngb372 => ?_)
     have zu376 := u376.size
     have lt_gb372 := A375.lt
     refine t_assign rfl rfl rfl (t_nil' (hK305 _ _ (c_region (t_move rfl rfl rfl (t_ari rfl rfl rfl rfl rfl (by omega) (t_assign rfl rfl rfl (t_nil' ?_)))))))
     have D378 := (((M352.keep u360 (fun h => h)).keep u366 (fun h => h)).keep u376 (show ¬ ((bk283 = g2 ∧ bk278 ≤ bk283)) by omega))
     exact hK291 (pk ++ [(k : Int)], ao371, gb372, cp373, (us2 ++ [(⟨(nth vs k).v, aoC357, bC357, 0, cpC357⟩ : HVoy)])) _ _ (by show vs.length - (pk ++ [(k : Int)]).length < vs.length - pk.length; rw [List.length_append, List.length_singleton]; omega) ⟨rfl, rfl, rfl, rfl, rfl, rfl, rfl, rfl, rfl, (congrArg some (congrArg (Value.int .i64) (by show (pk.length : Int) + 1 = ((pk ++ [(k : Int)]).length : Int); rw [List.length_append]; rfl))), trivial⟩ ⟨((((((u293.next u338 (fun _ _ h => h.elim)).next u343 (fun _ _ h => h.elim)).next u353 (fun i hi (h : i = bk283) => show i = bk278 ∨ i = bk283 by first | omega | assumption)).next u360 (fun _ _ h => h.elim)).next u366 (fun _ _ h => h.elim)).next u376 (fun i hi (h : (i = g2 ∧ bk278 ≤ i)) => show i = bk278 ∨ i = bk283 by first | omega | assumption)), (by show (us2 ++ [_]).length = (pk ++ [(k : Int)]).length ∧ (pk ++ [(k : Int)]).length ≤ vs.length; rw [List.length_append, List.length_append, List.length_singleton, List.length_singleton]; omega), (hok.snoc hk g69), (by rw [List.map_append, hum, permV_snocN, nth_mapv]; rfl), (by show gb372 = bk278 ∨ bk283 < gb372; omega), D378, A375, (((hnf.keep u376 (fun i h1 h2 h3 => show ¬ ((i = g2 ∧ bk278 ≤ i)) by omega)).snoc (⟨(nth vs k).v, aoC357, bC357, 0, cpC357⟩ : HVoy) gb372 w374.heap.size (by omega) (hns.keep u376 (fun hp => by have hlt := hns.lt hp; show ¬ ((bC357 = g2 ∧ bk278 ≤ bC357)); omega)) (fun hp => by have hlt := hns.lt hp; show bk283 + 1 ≤ bC357 ∧ bC357 ≠ gb372 ∧ bC357 < w374.heap.size; omega) (by omega)).mono (by omega))⟩
   ·
    have hokV : okPick (vs.map HVoy.v).length pk := by rw [List.length_map]; exact hok
    refine c_exit (hK288 _ _ (c_seq fun K379 hK379 => (c_region (t_move rfl rfl rfl (t_field Try.underlying37 rfl Try.sizeOf35 (1) rfl rfl rfl rfl (t_load Try.isAgg35 rfl rfl rfl (B304.get rfl) (t_call (vs := [.slice an ns.length cn]) own25 rfl rfl rfl rfl (narrows_c ns an bn on cn _ (hn.keep E301 (fun _ h => h)) (by omega)) (fun v380 w381 r383 => ?_))))))))
    obtain ⟨⟨aoN, bN, cpN, rfl, hN, _⟩, u382⟩ := r383
    have zu382 := u382.size
    have E384 := E301.next u382 (fun _ _ h => h.elim)
    refine t_move rfl rfl rfl (t_conv Try.underlying5 Try.underlying3 rfl rfl rfl (IntWalk.i64_in _ (by omega)) ?_)
    have D385 := (hacc.keep u382 (fun _ h => h))
    have D386 := (hfam.keep u382 (fun _ _ _ _ h => h))
    refine t_call (vs := [.slice ao2 us2.length c2, .slice aoN ns.length cpN, .int .i64 most]) own23 rfl rfl rfl rfl (HoldsU_c us2 ao2 g2 c2 ns aoN bN 0 cpN most (permV (vs.map HVoy.v) pk) _ hum (D385.sl (fun _ => rfl)) (fun x hx => (D386 x hx).1) hN (by rw [permV_len]; omega) (permV_runs hrl2 (fun j hj => by rw [List.length_map]; exact hok.1 j hj)) (by omega)) (fun v387 w388 r390 => ?_)
    obtain ⟨⟨ls1, at1, e1, aoA1, bA1, cpA1, rfl, hSl1, hHA1⟩, u389⟩ := r390
    have zu389 := u389.size
    have E391 := E384.next u389 (fun _ _ h => h.elim)
    have hA1 := hHA1
    refine t_move rfl rfl rfl (t_extract (vs := [.slice aoA1 ls1.length cpA1, .int .i64 at1, .int .i64 e1]) rfl rfl rfl rfl (t_extract (vs := [.slice aoA1 ls1.length cpA1, .int .i64 at1, .int .i64 e1]) rfl rfl rfl rfl (t_extract (vs := [.slice aoA1 ls1.length cpA1, .int .i64 at1, .int .i64 e1]) rfl rfl rfl rfl (t_assign rfl rfl rfl (t_assign rfl rfl rfl (t_assign rfl rfl rfl (t_nil' (hK379 _ _ (c_seq fun K392 hK392 => (c_region (t_assign rfl rfl rfl (t_nil' (hK392 _ _ (c_seq fun K393 hK393 => (c_seq fun K394 hK394 => (c_region (t_assign rfl rfl rfl (t_nil' (hK394 _ _ (c_block ?_))))))))))))))))))))
    have hr1 := holdsA_rng hA1 (by omega)
    have hl1 : ls1.length ≤ vs.length := by have h := hr1.1; rw [permV_len] at h; omega
    refine c_loop (γ := Nat) (fun k => [(1, .int .u8 most), (3, .pointer (some ⟨bk2, 0, none⟩)), (7, .slice aoA (List.length ordA) cpA), (8, .slice aoB (List.length hsA) cpB), (9, .int .i64 totA), (10, .int .i64 eA), (15, .slice aoA1 ls1.length cpA1), (17, .int .i64 e1), (18, .int .i64 (sumI (ls1.take k))), (19, .int .i64 (k : Int))]) (fun k w => Upd (fun _ => False) w388 w ∧ (k ≤ ls1.length) ∧ (0 ≤ sumI (ls1.take k) ∧ sumI (ls1.take k) ≤ 255 * k)) (fun k => ls1.length - k) 0 ⟨rfl, rfl, rfl, rfl, rfl, rfl, rfl, rfl, rfl, rfl, trivial⟩ ⟨Upd.refl _ _, (Nat.zero_le _), (by simp [sumI])⟩ ?_
    intro k w396 hW K395 hK395
    obtain ⟨u397, I398, I399⟩ := hW
    have zu397 := u397.size
    have E400 := E391.next u397 (fun _ _ h => h.elim)
    have hk := I398; clear I398
    have hsum := I399; clear I399
    refine c_seq fun K401 hK401 => (c_seq fun K402 hK402 => (c_region (t_move rfl rfl rfl (t_move rfl rfl rfl (t_len Try.underlying27 rfl rfl rfl rfl (t_cmp rfl rfl rfl rfl rfl (t_nil' (hK402 _ _ (c_condp rfl (fun g101 => ?_) (fun g101 => ?_))))))))))
    ·
     have hn1 := hr1.2 k (by omega)
     refine c_skip (hK401 _ _ (c_seq fun K403 hK403 => (c_block (c_region (t_move rfl rfl rfl (t_move rfl rfl rfl (t_move rfl rfl rfl ?_)))))))
     have D404 := (hSl1.keep u397 (fun _ h => h))
     have i405 : k < ls1.length := (by omega)
     refine t_index (j := k) Try.underlying27 Try.sizeOf3 rfl rfl rfl rfl (D404.addr (by omega)) rfl i405 (t_load Try.isAgg3 rfl rfl rfl ((D404.at_ k (by omega)) 0 _ rfl) (t_ari rfl rfl rfl rfl rfl (by omega) (t_assign rfl rfl rfl (t_nil' (hK403 _ _ (c_region (t_move rfl rfl rfl (t_ari rfl rfl rfl rfl rfl (by omega) (t_assign rfl rfl rfl (t_nil' ?_))))))))))
     exact hK395 (k + 1) _ _ (by omega) ⟨rfl, rfl, rfl, rfl, rfl, rfl, rfl, rfl, (congrArg some (congrArg (Value.int .i64) (by show sumI (ls1.take k) + nth ls1 k = sumI (ls1.take (k + 1)); rw [take_nth (by omega), sumI_snoc]))), rfl, trivial⟩ ⟨u397, (by omega), (by rw [take_nth (by omega), sumI_snoc]; omega)⟩
    ·
     refine c_exit (hK393 _ _ (c_seq fun K406 hK406 => (c_seq fun K407 hK407 => (c_region (t_move rfl rfl rfl (t_cmp rfl rfl rfl rfl rfl (t_nil' (hK407 _ _ (c_condp rfl (fun g111 => ?_) (fun g111 => ?_))))))))))
     ·
      have hB := best_law hOA (by rw [List.length_map]; omega) (by omega) hokV (by rw [List.length_map]; omega) hA1
      replace hB := hB.resolve_right (fun h => absurd h.1 (by omega))
      refine c_seq fun K408 hK408 => (c_region (t_move rfl rfl rfl (t_move rfl rfl rfl (t_cmp rfl rfl rfl rfl rfl (t_same 114 (v := .bool true) rfl (congrArg Value.bool (decide_eq_true (by omega))) (t_move rfl rfl rfl (t_move rfl rfl rfl (t_len Try.underlying27 rfl rfl rfl rfl (t_move rfl rfl rfl (t_len Try.underlying27 rfl rfl rfl rfl (t_ari rfl rfl rfl rfl rfl (by omega) (t_cmp rfl rfl rfl rfl rfl (t_same 121 (v := .bool true) rfl (congrArg Value.bool (decide_eq_true (by omega))) (t_pick_t rfl rfl rfl rfl (t_move rfl rfl rfl (t_move rfl rfl rfl (t_cmp rfl rfl rfl rfl rfl (t_same 125 (v := .bool true) rfl (congrArg Value.bool (decide_eq_true (by omega))) (t_pick_t rfl rfl rfl rfl (t_move rfl rfl rfl (t_call (vs := []) own16 rfl rfl rfl rfl (known_c _) (fun v409 w410 r412 => ?_))))))))))))))))))))))
      obtain ⟨rfl, u411⟩ := r412
      have zu411 := u411.size
      have E413 := E400.next u411 (fun _ _ h => h.elim)
      refine t_pick_t rfl rfl rfl rfl (t_assign rfl rfl rfl (t_nil' (hK408 _ _ (c_ret (f_ret1 (v := .bool true) Try.results14 rfl ?_)))))
      exact ⟨rfl, E413⟩
     ·
      have hB := best_law hOA (by rw [List.length_map]; omega) (by omega) hokV (by rw [List.length_map]; omega) hA1
      replace hB := hB.resolve_left (fun h => absurd h.1 (by omega))
      have hoO := hB.2.2.1.1
      have holn := hB.2.2.1.2.1
      have hhln := hB.2.2.1.2.2
      rw [List.length_map] at hoO holn hhln
      have hsum1 : e1 = 0 → totA ≤ sumI (ls1.take k) := fun h => by have h2 := hB.2.1 h; rw [List.take_of_length_le (by omega)]; exact h2
      refine c_skip (hK406 _ _ (c_seq fun K414 hK414 => (c_cut (γ := Unit) (fun _x => [(1, .int .u8 most), (3, .pointer (some ⟨bk2, 0, none⟩)), (7, .slice aoA (List.length ordA) cpA), (8, .slice aoB (List.length hsA) cpB), (9, .int .i64 totA), (151, .bool false)]) (fun _x w => Upd (fun _ => False) w396 w ∧ (True)) (fun K416 hK416 => ?_) ?_)))
      ·
       refine c_region (t_move rfl rfl rfl (t_cmp rfl rfl rfl rfl rfl (t_move rfl rfl rfl (t_splitp 132 rfl (fun g132 => ?_) (fun g132 => ?_)))))
       ·
        refine t_move rfl rfl rfl (t_move rfl rfl rfl (t_cmp rfl rfl rfl rfl rfl (t_same 135 (v := .bool false) rfl (congrArg Value.bool (decide_eq_false (by omega))) (t_pick_t rfl rfl rfl rfl (t_move rfl rfl rfl (t_move rfl rfl rfl (t_len Try.underlying27 rfl rfl rfl rfl (t_field Try.underlying37 rfl Try.sizeOf34 (0) rfl rfl rfl rfl ?_))))))))
        have B419 := (((B304.keep u382 (fun h => h)).keep u389 (fun h => h)).keep u397 (fun h => h))
        refine t_load Try.isAgg34 rfl rfl rfl (B419.get rfl) (t_len Try.underlying34 rfl rfl rfl rfl (t_cmp rfl rfl rfl rfl rfl (t_same 143 (v := .bool false) rfl (congrArg Value.bool (decide_eq_false (by omega))) (t_pick_f rfl rfl rfl rfl (t_move rfl rfl rfl (t_move rfl rfl rfl (t_len Try.underlying27 rfl rfl rfl rfl (t_move rfl rfl rfl (t_len Try.underlying27 rfl rfl rfl rfl (t_cmp rfl rfl rfl rfl rfl (t_same 150 (v := .bool false) rfl (congrArg Value.bool (decide_eq_false (by omega))) (t_pick_f rfl rfl rfl rfl (t_nil' ?_)))))))))))))
        exact hK416 () _ _ ⟨rfl, rfl, rfl, rfl, rfl, rfl, trivial⟩ ⟨(Upd.refl _ _), trivial⟩
       ·
        refine t_skip rfl rfl rfl (t_skip rfl rfl rfl (t_skip rfl rfl rfl (t_pick_f rfl rfl rfl rfl (t_move rfl rfl rfl (t_move rfl rfl rfl (t_len Try.underlying27 rfl rfl rfl rfl (t_field Try.underlying37 rfl Try.sizeOf34 (0) rfl rfl rfl rfl ?_)))))))
        have B420 := (((B304.keep u382 (fun h => h)).keep u389 (fun h => h)).keep u397 (fun h => h))
        refine t_load Try.isAgg34 rfl rfl rfl (B420.get rfl) (t_len Try.underlying34 rfl rfl rfl rfl (t_cmp rfl rfl rfl rfl rfl (t_same 143 (v := .bool false) rfl (congrArg Value.bool (decide_eq_false (by omega))) (t_pick_f rfl rfl rfl rfl (t_move rfl rfl rfl (t_move rfl rfl rfl (t_len Try.underlying27 rfl rfl rfl rfl (t_move rfl rfl rfl (t_len Try.underlying27 rfl rfl rfl rfl (t_cmp rfl rfl rfl rfl rfl (t_same 150 (v := .bool false) rfl (congrArg Value.bool (decide_eq_false (by omega))) (t_pick_f rfl rfl rfl rfl (t_nil' ?_)))))))))))))
        exact hK416 () _ _ ⟨rfl, rfl, rfl, rfl, rfl, rfl, trivial⟩ ⟨(Upd.refl _ _), trivial⟩
      ·
       intro _x w417 hW
       obtain ⟨u418, I421⟩ := hW
       have zu418 := u418.size
       have E422 := E400.next u418 (fun _ _ h => h.elim)
       refine c_cond_f rfl (c_skip (hK414 _ _ (c_seq fun K423 hK423 => (c_region (t_bslice (ps := []) (cs := []) (e := 48) rfl rfl ⟨rfl, rfl⟩ (fun w => by kernel_rfl) (fun bk424 w425 ebk424 sbk424 B426 u427 => ?_))))))
       have zu427 := u427.size
       have E428 := E422.next u427 (fun _ _ h => h.elim)
       refine t_makemap rfl rfl (fun bk429 w430 ebk429 sbk429 M431 u432 => ?_)
       have zu432 := u432.size
       have E433 := E428.next u432 (fun _ _ h => h.elim)
       refine t_assign rfl rfl rfl (t_assign rfl rfl rfl (t_nil' (hK423 _ _ (c_seq fun K434 hK434 => (c_seq fun K435 hK435 => (c_region (t_assign rfl rfl rfl (t_nil' (hK435 _ _ (c_block ?_))))))))))
       have B436 := (B426.keep u432 (fun h => h))
       refine c_loop (γ := Nat × Option Addr × Nat × Nat × List HVoy) (fun gg => [(1, .int .u8 most), (3, .pointer (some ⟨bk2, 0, none⟩)), (7, .slice aoA (List.length ordA) cpA), (8, .slice aoB (List.length hsA) cpB), (9, .int .i64 totA), (20, .slice gg.2.1 gg.2.2.2.2.length gg.2.2.2.1), (21, .map (some bk429)), (22, .int .i64 (gg.1 : Int))]) (fun gg w => Upd (fun i => i = bk424 ∨ i = bk429) w430 w ∧ (gg.2.2.2.2.length = gg.1 ∧ gg.1 ≤ ordA.length) ∧ (gg.2.2.2.2.map HVoy.v = permV (vs.map HVoy.v) (ordA.take gg.1)) ∧ (gg.2.2.1 = bk424 ∨ bk429 < gg.2.2.1) ∧ (SetI (ordA.take gg.1) w bk429) ∧ (Acc encHVoy 5 48 bk424 w gg.2.1 gg.2.2.1 gg.2.2.2.1 gg.2.2.2.2) ∧ (Fam encRun 6 HVoy.ao HVoy.b HVoy.o (fun x : HVoy => x.v.runs) (bk429 + 1) gg.2.2.1 w.heap.size gg.2.2.2.2 w)) (fun gg => ordA.length - gg.1) (0, some ⟨bk424, 0, none⟩, bk424, 0, []) ⟨rfl, rfl, rfl, rfl, rfl, rfl, rfl, rfl, trivial⟩ ⟨Upd.refl _ _, ⟨rfl, Nat.zero_le _⟩, rfl, (.inl rfl), (SetI.ofMemo M431), (Acc.lit encHVoy 5 B436 (Nat.le_refl _)), Fam.nil⟩ ?_
       intro gg w438 hW K437 hK437
       obtain ⟨k, ao3, g3, c3, us3⟩ := gg
       change WC _ _ _ _ _ _ [(1, .int .u8 most), (3, .pointer (some ⟨bk2, 0, none⟩)), (7, .slice aoA (List.length ordA) cpA), (8, .slice aoB (List.length hsA) cpB), (9, .int .i64 totA), (20, .slice ao3 us3.length c3), (21, .map (some bk429)), (22, .int .i64 (k : Int))] _
       change Upd (fun i => i = bk424 ∨ i = bk429) w430 w438 ∧ (us3.length = k ∧ k ≤ ordA.length) ∧ (us3.map HVoy.v = permV (vs.map HVoy.v) (ordA.take k)) ∧ (g3 = bk424 ∨ bk429 < g3) ∧ (SetI (ordA.take k) w438 bk429) ∧ (Acc encHVoy 5 48 bk424 w438 ao3 g3 c3 us3) ∧ (Fam encRun 6 HVoy.ao HVoy.b HVoy.o (fun x : HVoy => x.v.runs) (bk429 + 1) g3 w438.heap.size us3 w438) at hW
       obtain ⟨u439, I440, I441, I442, I443, I444, I445⟩ := hW
       have zu439 := u439.size
       have E446 := E433.next u439 (fun i hi (h : i = bk424 ∨ i = bk429) => show False by first | omega | assumption)
       have hkl3 := I440; clear I440
       have hum3 := I441; clear I441
       have hgb3 := I442; clear I442
       have hset3 := I443; clear I443
       have hacc3 := I444; clear I444
       have hfam3 := I445; clear I445
       have lt_g3 := hacc3.lt
       refine c_seq fun K447 hK447 => (c_seq fun K448 hK448 => (c_region (t_move rfl rfl rfl (t_move rfl rfl rfl (t_len Try.underlying27 rfl rfl rfl rfl (t_cmp rfl rfl rfl rfl rfl (t_nil' (hK448 _ _ (c_condp rfl (fun g157 => ?_) (fun g157 => ?_))))))))))
       ·
        refine c_skip (hK447 _ _ (c_seq fun K449 hK449 => (c_block (c_seq fun K450 hK450 => (c_seq fun K451 hK451 => ?_)))))
        have hkr := hoO.1 _ (nth_mem (xs := ordA) (i := k) (by omega))
        have g9164 : ¬ (nth ordA k < 0) := by omega
        have g9173 : ¬ ((vs.length : Int) ≤ nth ordA k) := by omega
        have g9181 := nodup_take hoO.2 (k := k) (by omega)
        have B452 := (((((((B304.keep u382 (fun h => h)).keep u389 (fun h => h)).keep u397 (fun h => h)).keep u418 (fun h => h)).keep u427 (fun h => h)).keep u432 (fun h => h)).keep u439 (show ¬ (bk2 = bk424 ∨ bk2 = bk429) by first | omega | assumption))
        refine WC.weak [(1, .int .u8 most), (3, .pointer (some ⟨bk2, 0, none⟩)), (7, .slice aoA (List.length ordA) cpA), (8, .slice aoB (List.length hsA) cpB), (9, .int .i64 totA), (20, .slice ao3 us3.length c3), (21, .map (some bk429)), (22, .int .i64 (k : Int))] ⟨rfl, rfl, rfl, rfl, rfl, rfl, rfl, rfl, trivial⟩ (c_drawn follows 23 [some (160, some (.slice aoA (List.length ordA) cpA)), some (161, some (.int .i64 (k : Int))), some (162, some (.pointer (some ⟨bA, 0 + k * 1, none⟩))), some (163, some (.int .i64 (nth ordA k))), some (164, some (.bool false)), some (165, some (.bool false)), some (166, some (.slice aoA (List.length ordA) cpA)), some (167, some (.int .i64 (k : Int))), some (168, some (.pointer (some ⟨bA, 0 + k * 1, none⟩))), some (169, some (.int .i64 (nth ordA k))), some (170, some (.pointer (some ⟨bk2, 0, none⟩))), some (171, some (.slice av vs.length cv)), some (172, some (.int .i64 (vs.length : Int))), some (173, some (.bool false)), some (174, some (.bool false)), some (175, some (.bool false)), some (176, some (.map (some bk429))), some (177, some (.slice aoA (List.length ordA) cpA)), some (178, some (.int .i64 (k : Int))), some (179, some (.pointer (some ⟨bA, 0 + k * 1, none⟩))), some (180, some (.int .i64 (nth ordA k))), some (181, some (.bool false)), some (182, some (.bool false))] [[],[],[0,1],[2],[3],[4],[5],[5],[6,7,5],[8,5],[5],[10,5],[11,5],[9,12,5],[5,13],[14,5],[15],[15],[15],[17,18,15],[19,15],[16,20,15],[15,21]] (fun _ _ w => Upd (fun _ => False) w438 w) rfl rfl rfl (by kernel_rfl) (by kernel_rfl) (Upd.drew _).to ⟨?_, ?_, ?_, ?_, ?_, ?_, ?_, ?_, ?_, ?_, ?_, ?_, ?_, ?_, ?_, ?_, ?_, ?_, ?_, ?_, ?_, ?_, ?_, trivial⟩ ?_)
        · exact pz rfl rfl rfl rfl fun _ _ _ h => h
        · exact pz rfl rfl rfl rfl fun _ _ _ h => h
        ·
         intro D ρ w457 hcD hnD hdD hW
         have zhW := hW.size
         refine ⟨_, kf_fr [160, 161], fun Lr => ?_⟩
         have D460 := (((((((((((H267.1.keep u281 (fun _ h => h)).keep u286 (fun _ h => h)).keep u293 (fun hp => by have hlt := (H267.1).lt hp; show ¬ (bA = bk278 ∨ bA = bk283); omega)).keep u382 (fun _ h => h)).keep u389 (fun _ h => h)).keep u397 (fun _ h => h)).keep u418 (fun _ h => h)).keep u427 (fun _ h => h)).keep u432 (fun _ h => h)).keep u439 (fun hp => by have hlt := (H267.1).lt hp; show ¬ (bA = bk424 ∨ bA = bk429); omega)).keep hW (fun _ h => h))
         have i461 : k < ordA.length := (by omega)
         refine t_index (j := k) Try.underlying27 Try.sizeOf3 rfl rfl rfl rfl (D460.addr (by omega)) rfl (by omega) ?_
         exact dz rfl hW
        ·
         intro D ρ w462 hcD hnD hdD hW
         have zhW := hW.size
         refine ⟨_, kf_fr [162], fun Lr => ?_⟩
         have D465 := (((((((((((H267.1.keep u281 (fun _ h => h)).keep u286 (fun _ h => h)).keep u293 (fun hp => by have hlt := (H267.1).lt hp; show ¬ (bA = bk278 ∨ bA = bk283); omega)).keep u382 (fun _ h => h)).keep u389 (fun _ h => h)).keep u397 (fun _ h => h)).keep u418 (fun _ h => h)).keep u427 (fun _ h => h)).keep u432 (fun _ h => h)).keep u439 (fun hp => by have hlt := (H267.1).lt hp; show ¬ (bA = bk424 ∨ bA = bk429); omega)).keep hW (fun _ h => h))
         refine t_load Try.isAgg3 rfl rfl rfl ((D465.at_ k (by omega)) 0 _ rfl) ?_
         exact dz rfl hW
        · exact fun D ρ w _ _ _ hW => ⟨[(163, .int .i64 (nth ordA k))], ⟨fi 3 rfl rfl rfl, trivial⟩, fun Lr => t_cmp rfl rfl rfl rfl rfl (t_samehd (v := .bool false) (by first | exact congrArg Value.bool (decide_eq_false g9164) | exact congrArg Value.bool g9164 | simp [g9164]) (dz rfl hW))⟩
        · exact pz rfl rfl rfl rfl fun _ _ _ h => h
        · exact pz rfl rfl rfl rfl fun _ _ _ h => h
        · exact pz rfl rfl rfl rfl fun _ _ _ h => h
        ·
         intro D ρ w466 hcD hnD hdD hW
         have zhW := hW.size
         refine ⟨_, kf_fr [165, 166, 167], fun Lr => ?_⟩
         have D469 := (((((((((((H267.1.keep u281 (fun _ h => h)).keep u286 (fun _ h => h)).keep u293 (fun hp => by have hlt := (H267.1).lt hp; show ¬ (bA = bk278 ∨ bA = bk283); omega)).keep u382 (fun _ h => h)).keep u389 (fun _ h => h)).keep u397 (fun _ h => h)).keep u418 (fun _ h => h)).keep u427 (fun _ h => h)).keep u432 (fun _ h => h)).keep u439 (fun hp => by have hlt := (H267.1).lt hp; show ¬ (bA = bk424 ∨ bA = bk429); omega)).keep hW (fun _ h => h))
         have i470 : k < ordA.length := (by omega)
         refine t_index (j := k) Try.underlying27 Try.sizeOf3 rfl rfl rfl rfl (D469.addr (by omega)) rfl (by omega) ?_
         exact dz rfl hW
        ·
         intro D ρ w471 hcD hnD hdD hW
         have zhW := hW.size
         refine ⟨_, kf_fr [165, 168], fun Lr => ?_⟩
         have D474 := (((((((((((H267.1.keep u281 (fun _ h => h)).keep u286 (fun _ h => h)).keep u293 (fun hp => by have hlt := (H267.1).lt hp; show ¬ (bA = bk278 ∨ bA = bk283); omega)).keep u382 (fun _ h => h)).keep u389 (fun _ h => h)).keep u397 (fun _ h => h)).keep u418 (fun _ h => h)).keep u427 (fun _ h => h)).keep u432 (fun _ h => h)).keep u439 (fun hp => by have hlt := (H267.1).lt hp; show ¬ (bA = bk424 ∨ bA = bk429); omega)).keep hW (fun _ h => h))
         refine t_load Try.isAgg3 rfl rfl rfl ((D474.at_ k (by omega)) 0 _ rfl) ?_
         exact dz rfl hW
        · exact pzf Try.underlying37 rfl Try.sizeOf34 (0) rfl rfl rfl rfl rfl fun _ _ _ h => h
        ·
         intro D ρ w475 hcD hnD hdD hW
         have zhW := hW.size
         refine ⟨_, kf_fr [165, 170], fun Lr => ?_⟩
         have B478 := (B452.keep hW (fun h => h))
         refine t_load Try.isAgg34 rfl rfl rfl (B478.get rfl) ?_
         exact dz rfl hW
        ·
         intro D ρ w479 hcD hnD hdD hW
         have zhW := hW.size
         refine ⟨_, kf_fr [165, 171], fun Lr => ?_⟩
         refine t_len Try.underlying34 rfl rfl rfl rfl ?_
         exact dz rfl hW
        · exact fun D ρ w _ _ _ hW => ⟨[(165, .bool false), (169, .int .i64 (nth ordA k)), (172, .int .i64 (vs.length : Int))], ⟨fi 5 rfl rfl rfl, fi 9 rfl rfl rfl, fi 12 rfl rfl rfl, trivial⟩, fun Lr => t_cmp rfl rfl rfl rfl rfl (t_samehd (v := .bool false) (by first | exact congrArg Value.bool (decide_eq_false g9173) | exact congrArg Value.bool g9173 | simp [g9173]) (dz rfl hW))⟩
        · exact pz rfl rfl rfl rfl fun _ _ _ h => h
        · exact pz rfl rfl rfl rfl fun _ _ _ h => h
        · exact pz rfl rfl rfl rfl fun _ _ _ h => h
        · exact pz rfl rfl rfl rfl fun _ _ _ h => h
        · exact pz rfl rfl rfl rfl fun _ _ _ h => h
        ·
         intro D ρ w482 hcD hnD hdD hW
         have zhW := hW.size
         refine ⟨_, kf_fr [175, 177, 178], fun Lr => ?_⟩
         have D485 := (((((((((((H267.1.keep u281 (fun _ h => h)).keep u286 (fun _ h => h)).keep u293 (fun hp => by have hlt := (H267.1).lt hp; show ¬ (bA = bk278 ∨ bA = bk283); omega)).keep u382 (fun _ h => h)).keep u389 (fun _ h => h)).keep u397 (fun _ h => h)).keep u418 (fun _ h => h)).keep u427 (fun _ h => h)).keep u432 (fun _ h => h)).keep u439 (fun hp => by have hlt := (H267.1).lt hp; show ¬ (bA = bk424 ∨ bA = bk429); omega)).keep hW (fun _ h => h))
         have i486 : k < ordA.length := (by omega)
         refine t_index (j := k) Try.underlying27 Try.sizeOf3 rfl rfl rfl rfl (D485.addr (by omega)) rfl (by omega) ?_
         exact dz rfl hW
        ·
         intro D ρ w487 hcD hnD hdD hW
         have zhW := hW.size
         refine ⟨_, kf_fr [175, 179], fun Lr => ?_⟩
         have D490 := (((((((((((H267.1.keep u281 (fun _ h => h)).keep u286 (fun _ h => h)).keep u293 (fun hp => by have hlt := (H267.1).lt hp; show ¬ (bA = bk278 ∨ bA = bk283); omega)).keep u382 (fun _ h => h)).keep u389 (fun _ h => h)).keep u397 (fun _ h => h)).keep u418 (fun _ h => h)).keep u427 (fun _ h => h)).keep u432 (fun _ h => h)).keep u439 (fun hp => by have hlt := (H267.1).lt hp; show ¬ (bA = bk424 ∨ bA = bk429); omega)).keep hW (fun _ h => h))
         refine t_load Try.isAgg3 rfl rfl rfl ((D490.at_ k (by omega)) 0 _ rfl) ?_
         exact dz rfl hW
        ·
         intro D ρ w491 hcD hnD hdD hW
         have zhW := hW.size
         refine ⟨_, kf_fr [175, 176, 180], fun Lr => ?_⟩
         have D494 := (hset3.keep hW (fun h => h))
         refine t_lookupI (ks := (ordA.take k)) Try.underlying3 Try.underlying105 Try.zeroValue4 rfl rfl rfl rfl D494 (t_samehd (v := .bool false) (by first | exact congrArg Value.bool (decide_eq_false g9181) | exact congrArg Value.bool g9181 | simp [g9181]) ?_)
         exact dz rfl hW
        · exact pz rfl rfl rfl rfl fun _ _ _ h => h
        intro ρ w495 hW
        have u496 : Upd (fun _ => False) w438 w495 := hW
        have zu496 := u496.size
        have E497 := E446.next u496 (fun _ _ h => h.elim)
        refine QK.weak [(1, .int .u8 most), (3, .pointer (some ⟨bk2, 0, none⟩)), (7, .slice aoA (List.length ordA) cpA), (8, .slice aoB (List.length hsA) cpB), (9, .int .i64 totA), (20, .slice ao3 us3.length c3), (21, .map (some bk429)), (22, .int .i64 (k : Int)), (182, .bool false)] ⟨rfl, rfl, rfl, rfl, rfl, rfl, rfl, rfl, rfl, trivial⟩ (hK451 _ _ (c_cond_f rfl (c_skip (hK450 _ _ (c_seq fun K498 hK498 => (c_region (t_move rfl rfl rfl (t_move rfl rfl rfl (t_move rfl rfl rfl ?_)))))))))
        have D499 := (((((((((((H267.1.keep u281 (fun _ h => h)).keep u286 (fun _ h => h)).keep u293 (fun hp => by have hlt := (H267.1).lt hp; show ¬ (bA = bk278 ∨ bA = bk283); omega)).keep u382 (fun _ h => h)).keep u389 (fun _ h => h)).keep u397 (fun _ h => h)).keep u418 (fun _ h => h)).keep u427 (fun _ h => h)).keep u432 (fun _ h => h)).keep u439 (fun hp => by have hlt := (H267.1).lt hp; show ¬ (bA = bk424 ∨ bA = bk429); omega)).keep u496 (fun _ h => h))
        have i500 : k < ordA.length := (by omega)
        refine t_index (j := k) Try.underlying27 Try.sizeOf3 rfl rfl rfl rfl (D499.addr (by omega)) rfl (by omega) (t_load Try.isAgg3 rfl rfl rfl ((D499.at_ k (by omega)) 0 _ rfl) ?_)
        have D501 := (hset3.keep u496 (fun h => h))
        refine t_mapnewI (ks := (ordA.take k)) Try.underlying3 Try.underlying105 rfl rfl rfl rfl D501 g9181 (fun w502 ew502 M503 u504 => ?_)
        have zu504 := u504.size
        have E505 := E497.next u504 (fun i hi (h : i = bk429) => show False by first | omega | assumption)
        refine t_nil' (hK498 _ _ ?_)
        have hrk := hrl _ (nth_mem (xs := vs) (i := (nth ordA k).toNat) (by omega))
        have B506 := ((B452.keep u496 (fun h => h)).keep u504 (show ¬ (bk2 = bk429) by first | omega | assumption))
        refine WC.weak [(1, .int .u8 most), (3, .pointer (some ⟨bk2, 0, none⟩)), (7, .slice aoA (List.length ordA) cpA), (8, .slice aoB (List.length hsA) cpB), (9, .int .i64 totA), (20, .slice ao3 us3.length c3), (21, .map (some bk429)), (22, .int .i64 (k : Int))] ⟨rfl, rfl, rfl, rfl, rfl, rfl, rfl, rfl, trivial⟩ (c_drawnS follows 13 11 [some (188, some (.slice ao3 us3.length c3)), some (189, some (.pointer (some ⟨bk2, 0, none⟩))), some (190, some (.slice av vs.length cv)), some (191, some (.slice aoA (List.length ordA) cpA)), some (192, some (.int .i64 (k : Int))), some (193, some (.pointer (some ⟨bA, 0 + k * 1, none⟩))), some (194, some (.int .i64 (nth ordA k))), some (195, some (.pointer (some ⟨bv, ov + (nth ordA k).toNat * 5, none⟩))), some (196, some (.agg #[.int .i64 ((nth vs ((nth ordA k).toNat)).v.st.lo), .int .i64 ((nth vs ((nth ordA k).toNat)).v.st.hi), .slice ((nth vs ((nth ordA k).toNat)).ao) (((nth vs ((nth ordA k).toNat)).v.runs).length) ((nth vs ((nth ordA k).toNat)).cap), .int .i64 ((nth vs ((nth ordA k).toNat)).v.len), .int .i64 ((nth vs ((nth ordA k).toNat)).v.wid)])), some (197, none), some (198, none)] [[],[],[1],[],[],[3,4],[5],[2,6],[7],[8],[9],[0,10,9],[11,11,0,1,2,3,4,5,6,7,8,9,10,11]] (fun D ρ w => Upd (fun _ => False) w502 w ∧ (D 9 = true → ∃ aoC510 bC510 cpC510, ρ 9 = .agg #[.int .i64 ((nth vs ((nth ordA k).toNat)).v.st.lo), .int .i64 ((nth vs ((nth ordA k).toNat)).v.st.hi), .slice aoC510 (((nth vs ((nth ordA k).toNat)).v.runs).length) cpC510, .int .i64 ((nth vs ((nth ordA k).toNat)).v.len), .int .i64 ((nth vs ((nth ordA k).toNat)).v.wid)] ∧ (D 10 = false → (Sl encRun 6 w aoC510 bC510 0 (nth vs ((nth ordA k).toNat)).v.runs ∧ w502.heap.size ≤ bC510))) ∧ (D 10 = true → ∃ aoC510 bC510 cpC510 bk516, ρ 10 = .slice (some ⟨bk516, 0, none⟩) 1 1 ∧ w502.heap.size ≤ bk516 ∧ Blk w bk516 48 [.int .i64 ((nth vs ((nth ordA k).toNat)).v.st.lo), .int .i64 ((nth vs ((nth ordA k).toNat)).v.st.hi), .slice aoC510 (((nth vs ((nth ordA k).toNat)).v.runs).length) cpC510, .int .i64 ((nth vs ((nth ordA k).toNat)).v.len), .int .i64 ((nth vs ((nth ordA k).toNat)).v.wid)] ∧ (Sl encRun 6 w aoC510 bC510 0 (nth vs ((nth ordA k).toNat)).v.runs ∧ w502.heap.size ≤ bC510))) rfl rfl rfl rfl (by kernel_rfl) (by kernel_rfl) (by kernel_rfl) ⟨(Upd.drew _).to, (fun h => by cases h), (fun h => by cases h)⟩ ⟨?_, ?_, ?_, ?_, ?_, ?_, ?_, ?_, ?_, ?_, ?_, trivial⟩ ?_)
        · exact pz rfl rfl rfl rfl fun _ _ _ h => h
        · exact pzf Try.underlying37 rfl Try.sizeOf34 (0) rfl rfl rfl rfl rfl fun _ _ _ h => h
        · exact fun D ρ w521 hcD hnD hdD hW => ⟨_, kf_fr [189], fun Lr => t_load Try.isAgg34 rfl rfl rfl ((B506.keep hW.1 (fun h => h)).get rfl) (dz rfl hW)⟩
        · exact pz rfl rfl rfl rfl fun _ _ _ h => h
        · exact pz rfl rfl rfl rfl fun _ _ _ h => h
        · exact fun D ρ w527 hcD hnD hdD hW => ⟨_, kf_fr [191, 192], fun Lr => t_index (j := k) Try.underlying27 Try.sizeOf3 rfl rfl rfl rfl (((D499.keep u504 (fun hp => by have hlt := (H267.1).lt hp; show ¬ (bA = bk429); omega)).keep hW.1 (fun _ h => h)).addr (by omega)) rfl (by omega) (dz rfl hW)⟩
        · exact fun D ρ w534 hcD hnD hdD hW => ⟨_, kf_fr [193], fun Lr => t_load Try.isAgg3 rfl rfl rfl ((((D499.keep u504 (fun hp => by have hlt := (H267.1).lt hp; show ¬ (bA = bk429); omega)).keep hW.1 (fun _ h => h)).at_ k (by omega)) 0 _ rfl) (dz rfl hW)⟩
        ·
         intro D ρ w540 hcD hnD hdD hW
         obtain ⟨u541, F542, F543⟩ := hW
         have zu541 := u541.size
         have E544 := E505.next u541 (fun _ _ h => h.elim)
         refine ⟨_, kf_fr [190, 194], fun Lr => ?_⟩
         have i545 : (nth ordA k).toNat < vs.length := (by omega)
         refine t_index (j := (nth ordA k).toNat) Try.underlying34 Try.sizeOf48 rfl rfl rfl rfl ((hs.keep E544 (fun _ h => h)).addr (by omega)) (by omega) i545 ?_
         exact dz rfl ⟨u541, F542, F543⟩
        ·
         intro D ρ w546 hcD hnD hdD hW
         obtain ⟨u547, F548, F549⟩ := hW
         have zu547 := u547.size
         have E550 := E505.next u547 (fun _ _ h => h.elim)
         refine ⟨_, kf_fr [195], fun Lr => ?_⟩
         refine t_loadN (vs := [.int .i64 ((nth vs ((nth ordA k).toNat)).v.st.lo), .int .i64 ((nth vs ((nth ordA k).toNat)).v.st.hi), .slice ((nth vs ((nth ordA k).toNat)).ao) (((nth vs ((nth ordA k).toNat)).v.runs).length) ((nth vs ((nth ordA k).toNat)).cap), .int .i64 ((nth vs ((nth ordA k).toNat)).v.len), .int .i64 ((nth vs ((nth ordA k).toNat)).v.wid)]) Try.isAgg48 Try.sizeOf48 rfl rfl rfl (((hs.keep E550 (fun _ h => h)).at_ ((nth ordA k).toNat) (by omega)).sub 0 5) rfl ?_
         exact dz rfl ⟨u547, F548, F549⟩
        ·
         intro D ρ w551 hcD hnD hdD hW
         obtain ⟨u552, F553, F554⟩ := hW
         have zu552 := u552.size
         have E555 := E505.next u552 (fun _ _ h => h.elim)
         refine ⟨_, kf_fr [196], fun Lr => ?_⟩
         refine t_call (vs := [.agg #[.int .i64 ((nth vs ((nth ordA k).toNat)).v.st.lo), .int .i64 ((nth vs ((nth ordA k).toNat)).v.st.hi), .slice ((nth vs ((nth ordA k).toNat)).ao) (((nth vs ((nth ordA k).toNat)).v.runs).length) ((nth vs ((nth ordA k).toNat)).cap), .int .i64 ((nth vs ((nth ordA k).toNat)).v.len), .int .i64 ((nth vs ((nth ordA k).toNat)).v.wid)]]) own28 rfl rfl rfl rfl (copied_c (nth vs ((nth ordA k).toNat)).v (nth vs ((nth ordA k).toNat)).ao (nth vs ((nth ordA k).toNat)).b (nth vs ((nth ordA k).toNat)).o (nth vs ((nth ordA k).toNat)).cap _ ((hruns (nth vs ((nth ordA k).toNat)) (nth_mem (by omega))).keep E555 (fun _ h => h)) (by omega)) (fun v557 w558 r560 => ?_)
         obtain ⟨⟨aoC556, bC556, cpC556, rfl, hC556, gebC556⟩, u559⟩ := r560
         have zu559 := u559.size
         exact dzn rfl ⟨(u552.next u559 (fun _ _ h => h.elim)), (fun _ => ⟨aoC556, bC556, cpC556, rfl, fun _ => ⟨hC556, by omega⟩⟩), (fun h => absurd ((hcD.late 10 hnD rfl).symm.trans h) (by decide))⟩
        ·
         intro D ρ w562 hcD hnD hdD hW
         obtain ⟨u563, F564, F565⟩ := hW
         have zu563 := u563.size
         obtain ⟨aoC510, bC510, cpC510, e567, H568⟩ := F564 (hdD 9 rfl)
         have H569 := H568 hnD
         have hsH569 := H569.1
         have hgH569 := H569.2
         refine ⟨[(197, .agg #[.int .i64 ((nth vs ((nth ordA k).toNat)).v.st.lo), .int .i64 ((nth vs ((nth ordA k).toNat)).v.st.hi), .slice aoC510 (((nth vs ((nth ordA k).toNat)).v.runs).length) cpC510, .int .i64 ((nth vs ((nth ordA k).toNat)).v.len), .int .i64 ((nth vs ((nth ordA k).toNat)).v.wid)])], ⟨fi 9 rfl rfl e567.symm, trivial⟩, fun Lr => ?_⟩
         refine t_bslice (ps := [(0, .agg #[.int .i64 ((nth vs ((nth ordA k).toNat)).v.st.lo), .int .i64 ((nth vs ((nth ordA k).toNat)).v.st.hi), .slice aoC510 (((nth vs ((nth ordA k).toNat)).v.runs).length) cpC510, .int .i64 ((nth vs ((nth ordA k).toNat)).v.len), .int .i64 ((nth vs ((nth ordA k).toNat)).v.wid)])]) (cs := [.int .i64 ((nth vs ((nth ordA k).toNat)).v.st.lo), .int .i64 ((nth vs ((nth ordA k).toNat)).v.st.hi), .slice aoC510 (((nth vs ((nth ordA k).toNat)).v.runs).length) cpC510, .int .i64 ((nth vs ((nth ordA k).toNat)).v.len), .int .i64 ((nth vs ((nth ordA k).toNat)).v.wid)]) (e := 48) rfl rfl ⟨rfl, rfl⟩ (fun w => by kernel_rfl) (fun bk570 w571 ebk570 sbk570 B572 u573 => ?_)
         have zu573 := u573.size
         exact dzn rfl ⟨(u563.next u573 (fun _ _ h => h.elim)), (fun h => by obtain ⟨aoC510, bC510, cpC510, e, _⟩ := F564 h; exact ⟨aoC510, bC510, cpC510, e, fun h => by cases h⟩), (fun _ => ⟨aoC510, bC510, cpC510, bk570, rfl, (by omega), (by show Blk w571 bk570 48 [.int .i64 ((nth vs ((nth ordA k).toNat)).v.st.lo), .int .i64 ((nth vs ((nth ordA k).toNat)).v.st.hi), .slice aoC510 (((nth vs ((nth ordA k).toNat)).v.runs).length) cpC510, .int .i64 ((nth vs ((nth ordA k).toNat)).v.len), .int .i64 ((nth vs ((nth ordA k).toNat)).v.wid)]; exact B572), ⟨(H569.1.keep u573 (fun _ h => h)), H569.2⟩⟩)⟩
        intro ρ w575 hW
        obtain ⟨u576, F577, F578⟩ := hW
        have zu576 := u576.size
        obtain ⟨aoC510, bC510, cpC510, bk516, e581, gebk516, B582, fcB582_9⟩ := F578 rfl
        have hsfcB582_9 := fcB582_9.1
        have hgfcB582_9 := fcB582_9.2
        have B582 : Blk w575 bk516 48 [.int .i64 ((nth vs ((nth ordA k).toNat)).v.st.lo), .int .i64 ((nth vs ((nth ordA k).toNat)).v.st.hi), .slice aoC510 (((nth vs ((nth ordA k).toNat)).v.runs).length) cpC510, .int .i64 ((nth vs ((nth ordA k).toNat)).v.len), .int .i64 ((nth vs ((nth ordA k).toNat)).v.wid)] := B582
        have lt_bk516 := B582.lt
        refine t_weak [(1, .int .u8 most), (3, .pointer (some ⟨bk2, 0, none⟩)), (7, .slice aoA (List.length ordA) cpA), (8, .slice aoB (List.length hsA) cpB), (9, .int .i64 totA), (21, .map (some bk429)), (22, .int .i64 (k : Int)), (188, .slice ao3 us3.length c3), (198, .slice (some ⟨bk516, 0, none⟩) 1 1)] ⟨rfl, rfl, rfl, rfl, rfl, rfl, rfl, rfl, (look_nd (j := 10) rfl rfl rfl e581), trivial⟩ ?_
        have D583 := (((hacc3.keep u496 (fun _ h => h)).keep u504 (fun hb => show ¬ (g3 = bk429) by first | omega | assumption)).keep u576 (fun _ h => h))
        have D584 := (((hfam3.keep u496 (fun _ _ _ _ h => h)).keep u504 (fun i h1 h2 h3 => show ¬ (i = bk429) by omega)).keep u576 (fun _ _ _ _ h => h))
        have hnf := D584
        have hns := hsfcB582_9
        have hna := D583
        have hnl := hna.lt
        refine t_append (z := .agg #[.int .i64 0, .int .i64 0, .slice none 0 0, .int .i64 0, .int .i64 0]) (bytes := 56) (k := 5) (base := bk424) (⟨(nth vs (nth ordA k).toNat).v, aoC510, bC510, 0, cpC510⟩ : HVoy) Try.underlying34 (by kernel_rfl) rfl (by decide) (fun _ => rfl) (by intro x; simp [encHVoy, Value.oneCell']) rfl rfl rfl rfl D583 B582 (by omega) (by omega) (by decide) (fun ao585 gb586 cp587 w588 A589 u590 gegb586 lngb586 => ?_)
        have zu590 := u590.size
        have lt_gb586 := A589.lt
        refine t_assign rfl rfl rfl (t_nil' (hK449 _ _ (c_region (t_move rfl rfl rfl (t_ari rfl rfl rfl rfl rfl (by omega) (t_assign rfl rfl rfl (t_nil' ?_)))))))
        have D592 := ((M503.keep u576 (fun h => h)).keep u590 (show ¬ ((bk429 = g3 ∧ bk424 ≤ bk429)) by omega))
        exact hK437 (k + 1, ao585, gb586, cp587, (us3 ++ [(⟨(nth vs (nth ordA k).toNat).v, aoC510, bC510, 0, cpC510⟩ : HVoy)])) _ _ (by show ordA.length - (k + 1) < ordA.length - k; omega) ⟨rfl, rfl, rfl, rfl, rfl, rfl, rfl, rfl, trivial⟩ ⟨((((u439.next u496 (fun _ _ h => h.elim)).next u504 (fun i hi (h : i = bk429) => show i = bk424 ∨ i = bk429 by first | omega | assumption)).next u576 (fun _ _ h => h.elim)).next u590 (fun i hi (h : (i = g3 ∧ bk424 ≤ i)) => show i = bk424 ∨ i = bk429 by first | omega | assumption)), (by show (us3 ++ [_]).length = k + 1 ∧ k + 1 ≤ ordA.length; rw [List.length_append, List.length_singleton]; omega), (by rw [List.map_append, hum3, take_nth (by omega), permV_snocI, nth_mapv]; rfl), (by show gb586 = bk424 ∨ bk429 < gb586; omega), (by rw [take_nth (by omega)]; exact D592), A589, (((hnf.keep u590 (fun i h1 h2 h3 => show ¬ ((i = g3 ∧ bk424 ≤ i)) by omega)).snoc (⟨(nth vs (nth ordA k).toNat).v, aoC510, bC510, 0, cpC510⟩ : HVoy) gb586 w588.heap.size (by omega) (hns.keep u590 (fun hp => by have hlt := hns.lt hp; show ¬ ((bC510 = g3 ∧ bk424 ≤ bC510)); omega)) (fun hp => by have hlt := hns.lt hp; show bk429 + 1 ≤ bC510 ∧ bC510 ≠ gb586 ∧ bC510 < w588.heap.size; omega) (by omega)).mono (by omega))⟩
       ·
        refine c_exit (hK434 _ _ (c_seq fun K593 hK593 => (c_region (t_move rfl rfl rfl (t_field Try.underlying37 rfl Try.sizeOf35 (1) rfl rfl rfl rfl ?_)))))
        have B594 := (((((((B304.keep u382 (fun h => h)).keep u389 (fun h => h)).keep u397 (fun h => h)).keep u418 (fun h => h)).keep u427 (fun h => h)).keep u432 (fun h => h)).keep u439 (show ¬ (bk2 = bk424 ∨ bk2 = bk429) by first | omega | assumption))
        refine t_load Try.isAgg35 rfl rfl rfl (B594.get rfl) (t_call (vs := [.slice an ns.length cn]) own25 rfl rfl rfl rfl (narrows_c ns an bn on cn _ (hn.keep E446 (fun _ h => h)) (by omega)) (fun v595 w596 r598 => ?_))
        obtain ⟨⟨aoN, bN, cpN, rfl, hN, _⟩, u597⟩ := r598
        have zu597 := u597.size
        have E599 := E446.next u597 (fun _ _ h => h.elim)
        refine t_move rfl rfl rfl (t_conv Try.underlying5 Try.underlying3 rfl rfl rfl (IntWalk.i64_in _ (by omega)) ?_)
        have D600 := (hacc3.keep u597 (fun _ h => h))
        have D601 := (hfam3.keep u597 (fun _ _ _ _ h => h))
        refine t_call (vs := [.slice ao3 us3.length c3, .slice aoN ns.length cpN, .int .i64 most]) own23 rfl rfl rfl rfl (HoldsU_c us3 ao3 g3 c3 ns aoN bN 0 cpN most (permV (vs.map HVoy.v) (ordA.take k)) _ hum3 (D600.sl (fun _ => rfl)) (fun x hx => (D601 x hx).1) hN (by rw [permV_len]; rw [List.length_take]; omega) (permV_runs hrl2 (fun j hj => by rw [List.length_map]; exact hoO.1 j (List.mem_of_mem_take hj))) (by omega)) (fun v602 w603 r605 => ?_)
        obtain ⟨⟨ls2, at2, e2, aoA2, bA2, cpA2, rfl, hSl2, hHA2⟩, u604⟩ := r605
        have zu604 := u604.size
        have E606 := E599.next u604 (fun _ _ h => h.elim)
        have hA2 := hHA2
        have hr2 := holdsA_rng hA2 (by omega)
        rw [List.take_of_length_le (by omega)] at hA2
        have hp2 := hB.2.2.2.2 _ _ _ hA2
        have hl2 : ls2.length = ordA.length := by rw [hp2.1]; simp [permH]
        refine t_move rfl rfl rfl (t_extract (vs := [.slice aoA2 ls2.length cpA2, .int .i64 at2, .int .i64 e2]) rfl rfl rfl rfl (t_extract (vs := [.slice aoA2 ls2.length cpA2, .int .i64 at2, .int .i64 e2]) rfl rfl rfl rfl (t_extract (vs := [.slice aoA2 ls2.length cpA2, .int .i64 at2, .int .i64 e2]) rfl rfl rfl rfl (t_assign rfl rfl rfl (t_assign rfl rfl rfl (t_nil' (hK593 _ _ (c_seq fun K607 hK607 => (c_seq fun K608 hK608 => (c_region (t_move rfl rfl rfl (t_cmp rfl rfl rfl rfl rfl (t_same 212 (v := .bool false) rfl (congrArg Value.bool (decide_eq_false (by omega))) (t_move rfl rfl rfl (t_move rfl rfl rfl (t_len Try.underlying27 rfl rfl rfl rfl (t_move rfl rfl rfl (t_len Try.underlying27 rfl rfl rfl rfl (t_cmp rfl rfl rfl rfl rfl (t_same 218 (v := .bool false) rfl (congrArg Value.bool (decide_eq_false (by omega))) (t_pick_f rfl rfl rfl rfl (t_nil' (hK608 _ _ ?_)))))))))))))))))))))))
        refine c_cond_f rfl (c_skip (hK607 _ _ (c_seq fun K609 hK609 => (c_region (t_assign rfl rfl rfl (t_nil' (hK609 _ _ (c_seq fun K610 hK610 => (c_seq fun K611 hK611 => (c_region (t_assign rfl rfl rfl (t_nil' (hK611 _ _ (c_block (c_loop (γ := Nat) (fun k => [(7, .slice aoA (List.length ordA) cpA), (8, .slice aoB (List.length hsA) cpB), (9, .int .i64 totA), (15, .slice aoA2 ls2.length cpA2), (18, .int .i64 (sumI (ls2.take k))), (23, .int .i64 (k : Int))]) (fun k w => Upd (fun _ => False) w603 w ∧ (k ≤ ordA.length) ∧ (0 ≤ sumI (ls2.take k) ∧ sumI (ls2.take k) ≤ 255 * k)) (fun k => ordA.length - k) 0 ⟨rfl, rfl, rfl, rfl, rfl, rfl, trivial⟩ ⟨Upd.refl _ _, (Nat.zero_le _), (by simp [sumI])⟩ ?_)))))))))))))))
        intro k w613 hW K612 hK612
        obtain ⟨u614, I615, I616⟩ := hW
        have zu614 := u614.size
        have E617 := E606.next u614 (fun _ _ h => h.elim)
        have hk := I615; clear I615
        have hsum := I616; clear I616
        refine c_seq fun K618 hK618 => (c_seq fun K619 hK619 => (c_region (t_move rfl rfl rfl (t_move rfl rfl rfl (t_len Try.underlying27 rfl rfl rfl rfl (t_cmp rfl rfl rfl rfl rfl (t_nil' (hK619 _ _ (c_condp rfl (fun g223 => ?_) (fun g223 => ?_))))))))))
        ·
         have hn2 := hr2.2 k (by omega)
         refine c_skip (hK618 _ _ (c_seq fun K620 hK620 => (c_block (c_seq fun K621 hK621 => (c_seq fun K622 hK622 => ?_)))))
         have hkr := hoO.1 _ (nth_mem (xs := ordA) (i := k) (by omega))
         have g9237 : ¬ (nth hsA (nth ordA k).toNat ≠ nth ls2 k) := by rw [hp2.1, permH_nth (by omega)]; simp
         refine WC.weak [(7, .slice aoA (List.length ordA) cpA), (8, .slice aoB (List.length hsA) cpB), (9, .int .i64 totA), (15, .slice aoA2 ls2.length cpA2), (18, .int .i64 (sumI (ls2.take k))), (23, .int .i64 (k : Int))] ⟨rfl, rfl, rfl, rfl, rfl, rfl, trivial⟩ (c_drawn follows 12 [some (226, some (.slice aoB (List.length hsA) cpB)), some (227, some (.slice aoA (List.length ordA) cpA)), some (228, some (.int .i64 (k : Int))), some (229, some (.pointer (some ⟨bA, 0 + k * 1, none⟩))), some (230, some (.int .i64 (nth ordA k))), some (231, some (.pointer (some ⟨bB, 0 + (nth ordA k).toNat * 1, none⟩))), some (232, some (.int .i64 (nth hsA ((nth ordA k).toNat)))), some (233, some (.slice aoA2 ls2.length cpA2)), some (234, some (.int .i64 (k : Int))), some (235, some (.pointer (some ⟨bA2, 0 + k * 1, none⟩))), some (236, some (.int .i64 (nth ls2 k))), some (237, some (.bool false))] [[],[],[],[1,2],[3],[0,4],[5],[],[],[7,8],[9],[6,10]] (fun _ _ w => Upd (fun _ => False) w613 w) rfl rfl rfl (by kernel_rfl) (by kernel_rfl) (Upd.drew _).to ⟨?_, ?_, ?_, ?_, ?_, ?_, ?_, ?_, ?_, ?_, ?_, ?_, trivial⟩ ?_)
         · exact pz rfl rfl rfl rfl fun _ _ _ h => h
         · exact pz rfl rfl rfl rfl fun _ _ _ h => h
         · exact pz rfl rfl rfl rfl fun _ _ _ h => h
         ·
          intro D ρ w629 hcD hnD hdD hW
          have zhW := hW.size
          refine ⟨_, kf_fr [227, 228], fun Lr => ?_⟩
          have D632 := ((((((((((((((H267.1.keep u281 (fun _ h => h)).keep u286 (fun _ h => h)).keep u293 (fun hp => by have hlt := (H267.1).lt hp; show ¬ (bA = bk278 ∨ bA = bk283); omega)).keep u382 (fun _ h => h)).keep u389 (fun _ h => h)).keep u397 (fun _ h => h)).keep u418 (fun _ h => h)).keep u427 (fun _ h => h)).keep u432 (fun _ h => h)).keep u439 (fun hp => by have hlt := (H267.1).lt hp; show ¬ (bA = bk424 ∨ bA = bk429); omega)).keep u597 (fun _ h => h)).keep u604 (fun _ h => h)).keep u614 (fun _ h => h)).keep hW (fun _ h => h))
          have i633 : k < ordA.length := (by omega)
          refine t_index (j := k) Try.underlying27 Try.sizeOf3 rfl rfl rfl rfl (D632.addr (by omega)) rfl (by omega) ?_
          exact dz rfl hW
         ·
          intro D ρ w634 hcD hnD hdD hW
          have zhW := hW.size
          refine ⟨_, kf_fr [229], fun Lr => ?_⟩
          have D637 := ((((((((((((((H267.1.keep u281 (fun _ h => h)).keep u286 (fun _ h => h)).keep u293 (fun hp => by have hlt := (H267.1).lt hp; show ¬ (bA = bk278 ∨ bA = bk283); omega)).keep u382 (fun _ h => h)).keep u389 (fun _ h => h)).keep u397 (fun _ h => h)).keep u418 (fun _ h => h)).keep u427 (fun _ h => h)).keep u432 (fun _ h => h)).keep u439 (fun hp => by have hlt := (H267.1).lt hp; show ¬ (bA = bk424 ∨ bA = bk429); omega)).keep u597 (fun _ h => h)).keep u604 (fun _ h => h)).keep u614 (fun _ h => h)).keep hW (fun _ h => h))
          refine t_load Try.isAgg3 rfl rfl rfl ((D637.at_ k (by omega)) 0 _ rfl) ?_
          exact dz rfl hW
         ·
          intro D ρ w638 hcD hnD hdD hW
          have zhW := hW.size
          refine ⟨_, kf_fr [226, 230], fun Lr => ?_⟩
          have D641 := ((((((((((((((H267.2.1.keep u281 (fun _ h => h)).keep u286 (fun _ h => h)).keep u293 (fun hp => by have hlt := (H267.2.1).lt hp; show ¬ (bB = bk278 ∨ bB = bk283); omega)).keep u382 (fun _ h => h)).keep u389 (fun _ h => h)).keep u397 (fun _ h => h)).keep u418 (fun _ h => h)).keep u427 (fun _ h => h)).keep u432 (fun _ h => h)).keep u439 (fun hp => by have hlt := (H267.2.1).lt hp; show ¬ (bB = bk424 ∨ bB = bk429); omega)).keep u597 (fun _ h => h)).keep u604 (fun _ h => h)).keep u614 (fun _ h => h)).keep hW (fun _ h => h))
          have i642 : (nth ordA k).toNat < hsA.length := (by omega)
          refine t_index (j := (nth ordA k).toNat) Try.underlying27 Try.sizeOf3 rfl rfl rfl rfl (D641.addr (by omega)) (by omega) (by omega) ?_
          exact dz rfl hW
         ·
          intro D ρ w643 hcD hnD hdD hW
          have zhW := hW.size
          refine ⟨_, kf_fr [231], fun Lr => ?_⟩
          have D646 := ((((((((((((((H267.2.1.keep u281 (fun _ h => h)).keep u286 (fun _ h => h)).keep u293 (fun hp => by have hlt := (H267.2.1).lt hp; show ¬ (bB = bk278 ∨ bB = bk283); omega)).keep u382 (fun _ h => h)).keep u389 (fun _ h => h)).keep u397 (fun _ h => h)).keep u418 (fun _ h => h)).keep u427 (fun _ h => h)).keep u432 (fun _ h => h)).keep u439 (fun hp => by have hlt := (H267.2.1).lt hp; show ¬ (bB = bk424 ∨ bB = bk429); omega)).keep u597 (fun _ h => h)).keep u604 (fun _ h => h)).keep u614 (fun _ h => h)).keep hW (fun _ h => h))
          refine t_load Try.isAgg3 rfl rfl rfl ((D646.at_ ((nth ordA k).toNat) (by omega)) 0 _ rfl) ?_
          exact dz rfl hW
         · exact pz rfl rfl rfl rfl fun _ _ _ h => h
         · exact pz rfl rfl rfl rfl fun _ _ _ h => h
         ·
          intro D ρ w647 hcD hnD hdD hW
          have zhW := hW.size
          refine ⟨_, kf_fr [233, 234], fun Lr => ?_⟩
          have D650 := ((hSl2.keep u614 (fun _ h => h)).keep hW (fun _ h => h))
          have i651 : k < ls2.length := (by omega)
          refine t_index (j := k) Try.underlying27 Try.sizeOf3 rfl rfl rfl rfl (D650.addr (by omega)) rfl i651 ?_
          exact dz rfl hW
         ·
          intro D ρ w652 hcD hnD hdD hW
          have zhW := hW.size
          refine ⟨_, kf_fr [235], fun Lr => ?_⟩
          have D655 := ((hSl2.keep u614 (fun _ h => h)).keep hW (fun _ h => h))
          refine t_load Try.isAgg3 rfl rfl rfl ((D655.at_ k (by omega)) 0 _ rfl) ?_
          exact dz rfl hW
         · exact fun D ρ w _ _ _ hW => ⟨[(232, .int .i64 (nth hsA ((nth ordA k).toNat))), (236, .int .i64 (nth ls2 k))], ⟨fi 6 rfl rfl rfl, fi 10 rfl rfl rfl, trivial⟩, fun Lr => t_cmp rfl rfl rfl rfl rfl (t_samehd (v := .bool false) (by first | exact congrArg Value.bool (decide_eq_false g9237) | exact congrArg Value.bool g9237 | simp [g9237]) (dz rfl hW))⟩
         intro ρ w656 hW
         have u657 : Upd (fun _ => False) w613 w656 := hW
         have zu657 := u657.size
         refine QK.weak [(7, .slice aoA (List.length ordA) cpA), (8, .slice aoB (List.length hsA) cpB), (9, .int .i64 totA), (15, .slice aoA2 ls2.length cpA2), (18, .int .i64 (sumI (ls2.take k))), (23, .int .i64 (k : Int)), (237, .bool false)] ⟨rfl, rfl, rfl, rfl, rfl, rfl, rfl, trivial⟩ (hK622 _ _ (c_cond_f rfl (c_skip (hK621 _ _ (c_region (t_move rfl rfl rfl (t_move rfl rfl rfl (t_move rfl rfl rfl ?_))))))))
         have D659 := ((hSl2.keep u614 (fun _ h => h)).keep u657 (fun _ h => h))
         have i660 : k < ls2.length := (by omega)
         refine t_index (j := k) Try.underlying27 Try.sizeOf3 rfl rfl rfl rfl (D659.addr (by omega)) rfl i660 (t_load Try.isAgg3 rfl rfl rfl ((D659.at_ k (by omega)) 0 _ rfl) (t_ari rfl rfl rfl rfl rfl (by omega) (t_assign rfl rfl rfl (t_nil' (hK620 _ _ (c_region (t_move rfl rfl rfl (t_ari rfl rfl rfl rfl rfl (by omega) (t_assign rfl rfl rfl (t_nil' ?_))))))))))
         exact hK612 (k + 1) _ _ (by omega) ⟨rfl, rfl, rfl, rfl, (congrArg some (congrArg (Value.int .i64) (by show sumI (ls2.take k) + nth ls2 k = sumI (ls2.take (k + 1)); rw [take_nth (by omega), sumI_snoc]))), rfl, trivial⟩ ⟨(u614.next u657 (fun _ _ h => h.elim)), (by omega), (by rw [take_nth (by omega), sumI_snoc]; omega)⟩
        ·
         refine c_exit (hK610 _ _ (c_seq fun K661 hK661 => (c_region (t_move rfl rfl rfl (t_move rfl rfl rfl ?_)))))
         have hfin : sumI (ls2.take k) = totA := by rw [List.take_of_length_le (by omega), hp2.1]; exact hB.2.2.2.1.symm
         refine t_cmp rfl rfl rfl rfl rfl (t_same 246 (v := .bool true) rfl (congrArg Value.bool (decide_eq_true hfin)) (t_move rfl rfl rfl (t_call (vs := []) own16 rfl rfl rfl rfl (known_c _) (fun v662 w663 r665 => ?_))))
         obtain ⟨rfl, u664⟩ := r665
         have zu664 := u664.size
         have E666 := E617.next u664 (fun _ _ h => h.elim)
         refine t_pick_t rfl rfl rfl rfl (t_assign rfl rfl rfl (t_nil' (hK661 _ _ (c_ret (f_ret1 (v := .bool true) Try.results14 rfl ?_)))))
         exact ⟨rfl, E666⟩

end Go.Proofs.Ytmicjleiheoieaa
