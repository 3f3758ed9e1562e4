/-
  Members and legs by small numbers. Conditions: none.
-/
import Derived.Test.YtagmodjadmecdaaPA23
import Derived.Test.YtagmodjadmecdaaPBit
namespace Go.Proofs.Ytagmodjadmecdaa
open Go Go.RowKit

def encU5 (x : U5) : List Value := [.int .u8 x.a, .int .u8 x.b, .int .u8 x.c, .int .u8 x.d, .int .u8 x.e]
/-- Members and legs out of small numbers. -/
def papV (v : U5) : List Ppr := (if v.c % 2 = 1 then [⟨0, 300 + v.d⟩] else []) ++ (if v.c / 2 % 2 = 1 then [⟨1, 300 + v.d⟩] else [])
def donV (v : U5) : List Dty := if v.e % 3 = 0 then [⟨v.e % 20, v.e % 20, v.e % 20 + v.d % 40, v.e % 20 + v.d % 40⟩] else []
def slV (v : U5) : Slr := ⟨v.a % 60, 200 + 2 * v.b, papV v, donV v⟩
def legV (v : U5) : Leg := ⟨v.a % 3, ⟨2 * v.b, 2 * v.b + v.e % 5, (2 * v.b + 5) + v.c % 60, (2 * v.b + 10) + v.c % 60⟩, 1 + v.d % 2, (v.d / 2) % ((1 + v.d % 2) + 1)⟩
theorem papV_ok {v : U5} (h : okU5 v) : (papV v).length ≤ 2 ∧ ∀ p ∈ papV v, okPpr p = true := by
  unfold okU5 at h
  have h1 : okPpr ⟨0, 300 + v.d⟩ = true := by unfold okPpr; rw [decide_eq_true_eq]; simp only []; omega
  have h2 : okPpr ⟨1, 300 + v.d⟩ = true := by unfold okPpr; rw [decide_eq_true_eq]; simp only []; omega
  unfold papV
  by_cases a : v.c % 2 = 1 <;> by_cases b : v.c / 2 % 2 = 1 <;> simp [a, b, h1, h2]
theorem donV_ok {v : U5} (h : okU5 v) : (donV v).length ≤ 1 ∧ ∀ d ∈ donV v, okDty d = true := by
  unfold okU5 at h
  unfold donV
  by_cases a : v.e % 3 = 0
  · rw [if_pos a]
    refine ⟨by simp, fun d hd => ?_⟩
    rw [List.mem_singleton.1 hd]
    unfold okDty; rw [decide_eq_true_eq]; simp only []; omega
  · rw [if_neg a]; exact ⟨by simp, fun d hd => by cases hd⟩
theorem chkD_of {l : List Dty} (hl : l.length ≤ 20) (h : ∀ d ∈ l, okDty d = true) : chkD l = 0 := by
  unfold chkD
  rw [if_neg (by omega), if_neg]
  intro hc
  obtain ⟨d, hd, hq⟩ := List.any_eq_true.1 hc
  rw [h d hd] at hq; cases hq
theorem slV_ok {v : U5} (h : okU5 v) : okSlr (slV v) = true := by
  have h1 := papV_ok h; have h2 := donV_ok h
  unfold okU5 at h
  unfold okSlr slV
  rw [decide_eq_true_eq]
  simp only []
  exact ⟨by omega, by omega, by omega, h1.2, chkD_of (by omega) h2.2⟩
theorem legV_ok {v : U5} (h : okU5 v) : okLeg (legV v) = true := by
  unfold okU5 at h
  have a1 := Int.emod_nonneg (v.d / 2) (show (1 + v.d % 2) + 1 ≠ 0 by omega)
  have a2 := Int.emod_lt_of_pos (v.d / 2) (show 0 < (1 + v.d % 2) + 1 by omega)
  unfold okLeg okDty legV
  rw [decide_eq_true_eq, decide_eq_true_eq]
  simp only []; omega
theorem Blk.ne {w : World} {b b' : Nat} {t t' : TypeId} {cs cs' : List Value} (h : Blk w b t cs) (h' : Blk w b' t' cs') (ht : t ≠ t') : b ≠ b' := fun e => by
  subst e
  unfold Blk at h h'; rw [h] at h'; injection h' with h'; injection h' with _ h'; exact ht h'
theorem own17 : Own Try.prog 17 := ⟨Try.f17, Try.func17, by kernel_rfl, by kernel_rfl⟩

set_option maxHeartbeats 2000000 in
theorem team_c (u : U5) (ms : List U5) (am : Option Addr) (bm om cm : Nat) (ls : List U5) (al : Option Addr) (bl ol cl : Nat) (p q : Nat) (w0 : World) (hu : okU5 u) (hm9 : Sl encU5 5 w0 am bm om ms) (hml : ms.length ≤ 9223372036854775807) (hms : ∀ x ∈ ms, okU5 x) (hl9 : Sl encU5 5 w0 al bl ol ls) (hll9 : ls.length ≤ 9223372036854775807) (hls : ∀ x ∈ ls, okU5 x) (hp : p ≤ 1000) (hq : q ≤ 1000) (hpos : 0 < w0.heap.size) :
    CallsV Try.prog 17 [.agg #[.int .u8 u.a, .int .u8 u.b, .int .u8 u.c, .int .u8 u.d, .int .u8 u.e, .slice am ms.length cm, .slice al ls.length cl], .int .i64 (p : Int), .int .i64 (q : Int)] w0 (fun v w' => (∃ ah gh ch hs ax gx cx xs, v = .tuple #[.agg #[.int .i64 (smR u).rest, .int .i64 (smR u).span, .int .i64 (smR u).work, .int .i64 (smR u).week, .int .i64 (smR u).ww], .slice ah (List.length hs) ch, .slice ax (List.length xs) cx] ∧ Acc encHS 4 74 w0.heap.size w' ah gh ch hs ∧ hs.map HS.slr = (ms.take p).map slV ∧ (∀ h ∈ hs, SlrC w0.heap.size w' h) ∧ Acc encLeg 7 77 w0.heap.size w' ax gx cx xs ∧ xs = (ls.take q).map legV) ∧ Ext w0 w') := by
 refine f_enter (N := 170) Try.func17 rfl rfl rfl (c_seq fun K1 hK1 => (c_region (t_box (cs := [.int .u8 u.a, .int .u8 u.b, .int .u8 u.c, .int .u8 u.d, .int .u8 u.e, .slice am ms.length cm, .slice al ls.length cl]) rfl rfl rfl rfl (fun bk2 w3 ebk2 sbk2 B4 u5 => ?_))))
 have zu5 := u5.size
 refine t_alloc (cs := [.int .i64 0, .int .i64 0, .int .i64 0, .int .i64 0, .int .i64 0]) Try.zeroValue28 rfl rfl rfl (fun bk7 w8 ebk7 sbk7 B9 u10 => ?_)
 have zu10 := u10.size
 refine t_assign rfl rfl rfl (t_assign rfl rfl rfl (t_nil' (hK1 _ _ (c_seq fun K12 hK12 => (c_region (t_field Try.underlying61 rfl Try.sizeOf22 (0) rfl rfl rfl rfl ?_))))))
 have B13 := (B4.kx u10)
 refine t_loadN (vs := [.int .u8 u.a, .int .u8 u.b, .int .u8 u.c, .int .u8 u.d, .int .u8 u.e]) Try.isAgg22 Try.sizeOf22 rfl rfl rfl (B13.at.sub 0 5) rfl (t_build (ps := [(0, .agg #[.int .u8 u.a, .int .u8 u.b, .int .u8 u.c, .int .u8 u.d, .int .u8 u.e])]) (v := .agg #[.int .u8 u.a, .int .u8 u.b, .int .u8 u.c, .int .u8 u.d, .int .u8 u.e, .slice none 0 0]) rfl rfl ⟨rfl, rfl⟩ (fun w => by kernel_rfl) (t_call own8 rfl rfl rfl rfl (small_c u none 0 0 _ hu) (fun v14 w15 r17 => ?_)))
 obtain ⟨rfl, u16⟩ := r17
 have zu16 := u16.size
 refine t_alloc (cs := [.int .i64 0, .int .i64 0, .int .i64 0, .int .i64 0, .int .i64 0]) Try.zeroValue28 rfl rfl rfl (fun bk19 w20 ebk19 sbk19 B21 u22 => ?_)
 have zu22 := u22.size
 refine t_st (vs := [.int .i64 ((smR u).rest), .int .i64 ((smR u).span), .int .i64 ((smR u).work), .int .i64 ((smR u).week), .int .i64 ((smR u).ww)]) Try.sizeOf28 rfl rfl rfl B21 rfl rfl rfl rfl (fun w24 sw24 B26 u25 => ?_)
 have zu25 := u25.size
 have B26 : Blk w24 bk19 28 [.int .i64 ((smR u).rest), .int .i64 ((smR u).span), .int .i64 ((smR u).work), .int .i64 ((smR u).week), .int .i64 ((smR u).ww)] := B26
 refine t_nil' (hK12 _ _ (c_seq fun K28 hK28 => (c_region (t_bslice (ps := []) (cs := []) (e := 74) rfl rfl ⟨rfl, rfl⟩ (fun w => by kernel_rfl) (fun bk29 w30 ebk29 sbk29 B31 u32 => ?_)))))
 have zu32 := u32.size
 refine t_bslice (ps := []) (cs := []) (e := 77) rfl rfl ⟨rfl, rfl⟩ (fun w => by kernel_rfl) (fun bk34 w35 ebk34 sbk34 B36 u37 => ?_)
 have zu37 := u37.size
 refine t_assign rfl rfl rfl (t_assign rfl rfl rfl (t_nil' (hK28 _ _ (c_seq fun K39 hK39 => (c_seq fun K40 hK40 => (c_region (t_assign rfl rfl rfl (t_nil' (hK40 _ _ (c_block ?_))))))))))
 have B41 := (B31.kx u37)
 refine c_loop (γ := Nat × Option Addr × Nat × Nat × List HS) (fun gg => [(1, .int .i64 (p : Int)), (2, .int .i64 (q : Int)), (3, .pointer (some ⟨bk2, 0, none⟩)), (6, .pointer (some ⟨bk7, 0, none⟩)), (9, .pointer (some ⟨bk19, 0, none⟩)), (10, .slice gg.2.1 gg.2.2.2.2.length gg.2.2.2.1), (11, .slice (some ⟨bk34, 0, none⟩) 0 0), (12, .int .i64 (gg.1 : Int))]) (fun gg w => Upd (fun i => i = bk29 ∨ bk34 < i) w35 w ∧ (gg.1 ≤ ms.length ∧ gg.1 ≤ p) ∧ (Acc encHS 4 74 bk29 w gg.2.1 gg.2.2.1 gg.2.2.2.1 gg.2.2.2.2) ∧ (gg.2.2.2.2.map HS.slr = (ms.take gg.1).map slV) ∧ (∀ h ∈ gg.2.2.2.2, SlrC bk29 w h) ∧ (gg.2.2.1 = bk29 ∨ bk34 < gg.2.2.1)) (fun gg => p - gg.1) (0, some ⟨bk29, 0, none⟩, bk29, 0, []) ⟨rfl, rfl, rfl, rfl, rfl, rfl, rfl, rfl, trivial⟩ ⟨Upd.refl _ _, (by omega), (Acc.ofRaw (cs := []) B41 (Nat.le_refl _) (Nat.le_refl _) (Nat.zero_le _) (by rfl) (by rfl)), rfl, (fun h hh => by cases hh), (.inl rfl)⟩ ?_
 intro gg w43 hW K42 hK42
 obtain ⟨k, ao, go, co, out⟩ := gg
 change WC _ _ _ _ _ _ [(1, .int .i64 (p : Int)), (2, .int .i64 (q : Int)), (3, .pointer (some ⟨bk2, 0, none⟩)), (6, .pointer (some ⟨bk7, 0, none⟩)), (9, .pointer (some ⟨bk19, 0, none⟩)), (10, .slice ao out.length co), (11, .slice (some ⟨bk34, 0, none⟩) 0 0), (12, .int .i64 (k : Int))] _
 change Upd (fun i => i = bk29 ∨ bk34 < i) w35 w43 ∧ (k ≤ ms.length ∧ k ≤ p) ∧ (Acc encHS 4 74 bk29 w43 ao go co out) ∧ (out.map HS.slr = (ms.take k).map slV) ∧ (∀ h ∈ out, SlrC bk29 w43 h) ∧ (go = bk29 ∨ bk34 < go) at hW
 obtain ⟨u44, I45, I46, I47, I48, I49⟩ := hW
 have zu44 := u44.size
 have E50 := ((((((((Upd.refl (fun _ => False) w0).nx u5).nx u10).nx u16).nx u22).next u25 (fun i hi h => by omega)).nx u32).nx u37).next u44 (fun i hi (h : i = bk29 ∨ bk34 < i) => show False by first | omega | assumption)
 have hk := I45; clear I45
 have hout := I46; clear I46
 have hom := I47; clear I47
 have hoc := I48; clear I48
 have hgb := I49; clear I49
 have lt_go := hout.lt
 have hol : out.length = k := by have := congrArg List.length hom; simpa [List.length_take, Nat.min_eq_left hk.1] using this
 have hout0 := hout
 refine c_seq fun K51 hK51 => (c_seq fun K52 hK52 => (c_region (t_move rfl rfl rfl (t_field Try.underlying61 rfl Try.sizeOf59 (5) rfl rfl rfl rfl ?_))))
 have B53 := ((((((B13.kx u16).kx u22).keep u25 (by omega)).kx u32).kx u37).keep u44 (show ¬ (bk2 = bk29 ∨ bk34 < bk2) by first | omega | assumption))
 refine t_load Try.isAgg59 rfl rfl rfl (B53.get rfl) (t_len Try.underlying59 rfl rfl rfl rfl (t_cmp rfl rfl rfl rfl rfl (t_move rfl rfl rfl (t_splitp 31 rfl (fun g31 => ?_) (fun g31 => ?_)))))
 ·
  refine t_move rfl rfl rfl (t_move rfl rfl rfl (t_cmp rfl rfl rfl rfl rfl (t_pick_t rfl rfl rfl rfl (t_nil' (hK52 _ _ (c_condp rfl (fun g35 => ?_) (fun g35 => ?_)))))))
  ·
   have hv9 := hms _ (nth_mem (show k < ms.length by omega))
   have hpo := papV_ok hv9
   have hdo := donV_ok hv9
   unfold okU5 at hv9
   refine c_skip (hK51 _ _ (c_seq fun K54 hK54 => (c_block (c_seq fun K55 hK55 => (c_region (t_field Try.underlying61 rfl Try.sizeOf59 (5) rfl rfl rfl rfl (t_load Try.isAgg59 rfl rfl rfl (B53.get rfl) (t_move rfl rfl rfl ?_))))))))
   have i56 : k < ms.length := (by omega)
   refine t_index (j := k) Try.underlying59 Try.sizeOf22 rfl rfl rfl rfl ((hm9.keep E50 (fun _ h => h)).addr (by omega)) rfl i56 (t_loadN (vs := [.int .u8 ((nth ms k).a), .int .u8 ((nth ms k).b), .int .u8 ((nth ms k).c), .int .u8 ((nth ms k).d), .int .u8 ((nth ms k).e)]) Try.isAgg22 Try.sizeOf22 rfl rfl rfl (((hm9.keep E50 (fun _ h => h)).at_ k (by omega)).sub 0 5) rfl (t_alloc (cs := [.int .u8 0, .int .u8 0, .int .u8 0, .int .u8 0, .int .u8 0]) Try.zeroValue22 rfl rfl rfl (fun bk57 w58 ebk57 sbk57 B59 u60 => ?_)))
   have zu60 := u60.size
   refine t_st (vs := [.int .u8 ((nth ms k).a), .int .u8 ((nth ms k).b), .int .u8 ((nth ms k).c), .int .u8 ((nth ms k).d), .int .u8 ((nth ms k).e)]) Try.sizeOf22 rfl rfl rfl B59 rfl rfl rfl rfl (fun w62 sw62 B64 u63 => ?_)
   have zu63 := u63.size
   have B64 : Blk w62 bk57 22 [.int .u8 ((nth ms k).a), .int .u8 ((nth ms k).b), .int .u8 ((nth ms k).c), .int .u8 ((nth ms k).d), .int .u8 ((nth ms k).e)] := B64
   refine t_nil' (hK55 _ _ (c_seq fun K66 hK66 => (c_region (t_indexArr (j := 0) (0) Try.underlying22 Try.sizeOf5 rfl rfl rfl rfl rfl (by decide) rfl (t_load Try.isAgg5 rfl rfl rfl (B64.get rfl) (t_conv Try.underlying5 Try.underlying3 rfl rfl rfl (IntWalk.i64_in _ (by omega)) (t_rem rfl rfl rfl rfl (by omega) (by omega) (t_indexArr (j := 1) (1) Try.underlying22 Try.sizeOf5 rfl rfl rfl rfl rfl (by decide) rfl (t_load Try.isAgg5 rfl rfl rfl (B64.get rfl) (t_conv Try.underlying5 Try.underlying3 rfl rfl rfl (IntWalk.i64_in _ (by omega)) (t_ari rfl rfl rfl rfl rfl (by omega) (t_ari rfl rfl rfl rfl rfl (by omega) (t_build (ps := [(0, .int .i64 (((nth ms k).a) % 60)), (1, .int .i64 (200 + (2 * ((nth ms k).b))))]) (v := .agg #[.int .i64 (((nth ms k).a) % 60), .int .i64 (200 + (2 * ((nth ms k).b))), .slice none 0 0, .slice none 0 0]) rfl rfl ⟨rfl, rfl⟩ (fun w => by kernel_rfl) (t_alloc (cs := [.int .i64 0, .int .i64 0, .slice none 0 0, .slice none 0 0]) Try.zeroValue74 rfl rfl rfl (fun bk67 w68 ebk67 sbk67 B69 u70 => ?_)))))))))))))))
   have zu70 := u70.size
   refine t_st (vs := [.int .i64 (((nth ms k).a) % 60), .int .i64 (200 + (2 * ((nth ms k).b))), .slice none 0 0, .slice none 0 0]) Try.sizeOf74 rfl rfl rfl B69 rfl rfl rfl rfl (fun w72 sw72 B74 u73 => ?_)
   have zu73 := u73.size
   have B74 : Blk w72 bk67 74 [.int .i64 (((nth ms k).a) % 60), .int .i64 (200 + (2 * ((nth ms k).b))), .slice none 0 0, .slice none 0 0] := B74
   refine t_nil' (hK66 _ _ (c_cut (γ := Option Addr × Nat × Nat) (fun gg => [(1, .int .i64 (p : Int)), (2, .int .i64 (q : Int)), (3, .pointer (some ⟨bk2, 0, none⟩)), (6, .pointer (some ⟨bk7, 0, none⟩)), (9, .pointer (some ⟨bk19, 0, none⟩)), (10, .slice ao out.length co), (11, .slice (some ⟨bk34, 0, none⟩) 0 0), (12, .int .i64 (k : Int)), (13, .pointer (some ⟨bk57, 0, none⟩)), (14, .pointer (some ⟨bk67, 0, none⟩))]) (fun gg w => Upd (fun i => i = bk67) w72 w ∧ Blk w bk67 74 [.int .i64 (((nth ms k).a) % 60), .int .i64 (200 + (2 * ((nth ms k).b))), .slice gg.1 ((papV (nth ms k)).length) gg.2.2, .slice none 0 0] ∧ (Acc encPpr 2 107 w72.heap.size w gg.1 gg.2.1 gg.2.2 (papV (nth ms k)))) (fun K77 hK77 => ?_) ?_))
   ·
    refine c_seq fun K80 hK80 => (c_region (t_assign rfl rfl rfl (t_nil' (hK80 _ _ (c_block (c_rounds 3 (WR.weak [(1, .int .i64 (p : Int)), (2, .int .i64 (q : Int)), (3, .pointer (some ⟨bk2, 0, none⟩)), (6, .pointer (some ⟨bk7, 0, none⟩)), (9, .pointer (some ⟨bk19, 0, none⟩)), (10, .slice ao out.length co), (11, .slice (some ⟨bk34, 0, none⟩) 0 0), (12, .int .i64 (k : Int)), (13, .pointer (some ⟨bk57, 0, none⟩)), (14, .pointer (some ⟨bk67, 0, none⟩)), (15, .int .i64 0)] ⟨rfl, rfl, rfl, rfl, rfl, rfl, rfl, rfl, rfl, rfl, rfl, trivial⟩ (r_round fun K81 hK81 => (c_seq fun K82 hK82 => (c_seq fun K83 hK83 => (c_region (t_move rfl rfl rfl (t_cmp rfl rfl rfl rfl rfl (t_samehd (v := .bool true) rfl (t_nil' (hK83 _ _ (c_cond_t rfl (c_skip (hK82 _ _ (c_seq fun K84 hK84 => (c_block (c_seq fun K85 hK85 => (c_region ?_)))))))))))))))))))))))
    refine t_indexArr (j := 2) (2) Try.underlying22 Try.sizeOf5 rfl rfl rfl rfl rfl (by decide) rfl ?_
    have B86 := ((B64.kx u70).keep u73 (by omega))
    refine t_load Try.isAgg5 rfl rfl rfl (B86.get rfl) (t_move rfl rfl rfl (t_conv Try.underlying3 Try.underlying105 rfl rfl rfl (IntWalk.u64_in _ (by omega)) (t_shr8a rfl rfl rfl rfl (by omega) (t_and8 rfl rfl rfl rfl (by omega) (by omega) (t_cmp rfl rfl rfl rfl rfl (t_nil' (hK85 _ _ (c_condp rfl (fun g63 => ?_) (fun g63 => ?_)))))))))
    ·
     have gp0 := g63
     refine c_region (t_field Try.underlying74 rfl Try.sizeOf72 (2) rfl rfl rfl rfl (t_load Try.isAgg72 rfl rfl rfl (B74.get rfl) (t_move rfl rfl rfl (t_indexArr (j := 3) (3) Try.underlying22 Try.sizeOf5 rfl rfl rfl rfl rfl (by decide) rfl (t_load Try.isAgg5 rfl rfl rfl (B86.get rfl) (t_conv Try.underlying5 Try.underlying3 rfl rfl rfl (IntWalk.i64_in _ (by omega)) (t_ari rfl rfl rfl rfl rfl (by omega) (t_build (ps := [(0, .int .i64 0), (1, .int .i64 (300 + ((nth ms k).d)))]) (v := .agg #[.int .i64 0, .int .i64 (300 + ((nth ms k).d))]) rfl rfl ⟨rfl, rfl⟩ (fun w => by kernel_rfl) (t_bslice (ps := [(0, .agg #[.int .i64 0, .int .i64 (300 + ((nth ms k).d))])]) (cs := [.int .i64 0, .int .i64 (300 + ((nth ms k).d))]) (e := 107) rfl rfl ⟨rfl, rfl⟩ (fun w => by kernel_rfl) (fun bk87 w88 ebk87 sbk87 B89 u90 => ?_))))))))))
     have zu90 := u90.size
     have hpn := Acc.nil encPpr 2 107 w72.heap.size w88 (by omega) (by omega)
     refine t_append (z := .agg #[.int .i64 0, .int .i64 0]) (bytes := 16) (k := 2) (base := w72.heap.size) (⟨0, (300 + ((nth ms k).d))⟩ : Ppr) Try.underlying72 (by kernel_rfl) rfl (by decide) (fun _ => rfl) (by intro x; simp [encPpr, Value.oneCell']) rfl rfl rfl rfl hpn B89 (by omega) (by simp) (by decide) (fun ao92 gb93 cp94 w95 A96 u97 gegb93 lngb93 => ?_)
     have zu97 := u97.size
     have lt_gb93 := A96.lt
     refine t_field Try.underlying74 rfl Try.sizeOf72 (2) rfl rfl rfl rfl ?_
     have B99 := ((B74.kx u90).keep u97 (by omega))
     refine t_st (vs := [.slice ao92 ((([] ++ [(⟨0, (300 + ((nth ms k).d))⟩ : Ppr)])).length) cp94]) Try.sizeOf72 rfl rfl rfl B99 rfl rfl rfl rfl (fun w100 sw100 B102 u101 => ?_)
     have zu101 := u101.size
     have B102 : Blk w100 bk67 74 [.int .i64 (((nth ms k).a) % 60), .int .i64 (200 + (2 * ((nth ms k).b))), .slice ao92 ((([] ++ [(⟨0, (300 + ((nth ms k).d))⟩ : Ppr)])).length) cp94, .slice none 0 0] := B102
     refine t_nil' (hK84 _ _ (c_region (t_move rfl rfl rfl (t_ari rfl rfl rfl rfl rfl (by omega) (t_samehd (v := .int .i64 1) rfl (t_assign rfl rfl rfl (t_nil' (hK81 _ _ (WR.weak [(1, .int .i64 (p : Int)), (2, .int .i64 (q : Int)), (3, .pointer (some ⟨bk2, 0, none⟩)), (6, .pointer (some ⟨bk7, 0, none⟩)), (9, .pointer (some ⟨bk19, 0, none⟩)), (10, .slice ao out.length co), (11, .slice (some ⟨bk34, 0, none⟩) 0 0), (12, .int .i64 (k : Int)), (13, .pointer (some ⟨bk57, 0, none⟩)), (14, .pointer (some ⟨bk67, 0, none⟩)), (15, .int .i64 1)] ⟨rfl, rfl, rfl, rfl, rfl, rfl, rfl, rfl, rfl, rfl, rfl, trivial⟩ (r_round fun K104 hK104 => (c_seq fun K105 hK105 => (c_seq fun K106 hK106 => (c_region (t_move rfl rfl rfl (t_cmp rfl rfl rfl rfl rfl (t_samehd (v := .bool true) rfl (t_nil' (hK106 _ _ (c_cond_t rfl (c_skip (hK105 _ _ (c_seq fun K107 hK107 => (c_block ?_)))))))))))))))))))))))
     refine c_seq fun K108 hK108 => (c_region (t_indexArr (j := 2) (2) Try.underlying22 Try.sizeOf5 rfl rfl rfl rfl rfl (by decide) rfl ?_))
     have B109 := (((B86.kx u90).keep u97 (by omega)).keep u101 (by omega))
     refine t_load Try.isAgg5 rfl rfl rfl (B109.get rfl) (t_move rfl rfl rfl (t_conv Try.underlying3 Try.underlying105 rfl rfl rfl (IntWalk.u64_in _ (by omega)) (t_shr8b rfl rfl rfl rfl (by omega) (t_and8 rfl rfl rfl rfl (by omega) (by omega) (t_cmp rfl rfl rfl rfl rfl (t_nil' (hK108 _ _ (c_condp rfl (fun g63 => ?_) (fun g63 => ?_)))))))))
     ·
      have gp1 := g63
      refine c_region (t_field Try.underlying74 rfl Try.sizeOf72 (2) rfl rfl rfl rfl (t_load Try.isAgg72 rfl rfl rfl (B102.get rfl) (t_move rfl rfl rfl (t_indexArr (j := 3) (3) Try.underlying22 Try.sizeOf5 rfl rfl rfl rfl rfl (by decide) rfl (t_load Try.isAgg5 rfl rfl rfl (B109.get rfl) (t_conv Try.underlying5 Try.underlying3 rfl rfl rfl (IntWalk.i64_in _ (by omega)) (t_ari rfl rfl rfl rfl rfl (by omega) (t_build (ps := [(0, .int .i64 1), (1, .int .i64 (300 + ((nth ms k).d)))]) (v := .agg #[.int .i64 1, .int .i64 (300 + ((nth ms k).d))]) rfl rfl ⟨rfl, rfl⟩ (fun w => by kernel_rfl) (t_bslice (ps := [(0, .agg #[.int .i64 1, .int .i64 (300 + ((nth ms k).d))])]) (cs := [.int .i64 1, .int .i64 (300 + ((nth ms k).d))]) (e := 107) rfl rfl ⟨rfl, rfl⟩ (fun w => by kernel_rfl) (fun bk110 w111 ebk110 sbk110 B112 u113 => ?_))))))))))
      have zu113 := u113.size
      skip
      have D115 := ((A96.keep u101 (fun hb => show ¬ (gb93 = bk67) by first | omega | assumption)).keep u113 (fun _ h => h))
      refine t_append (z := .agg #[.int .i64 0, .int .i64 0]) (bytes := 16) (k := 2) (base := w72.heap.size) (⟨1, (300 + ((nth ms k).d))⟩ : Ppr) Try.underlying72 (by kernel_rfl) rfl (by decide) (fun _ => rfl) (by intro x; simp [encPpr, Value.oneCell']) rfl rfl rfl rfl D115 B112 (by omega) (by simp) (by decide) (fun ao116 gb117 cp118 w119 A120 u121 gegb117 lngb117 => ?_)
      have zu121 := u121.size
      have lt_gb117 := A120.lt
      refine t_field Try.underlying74 rfl Try.sizeOf72 (2) rfl rfl rfl rfl ?_
      have B123 := ((B102.kx u113).keep u121 (by omega))
      refine t_st (vs := [.slice ao116 (((([] ++ [(⟨0, (300 + ((nth ms k).d))⟩ : Ppr)]) ++ [(⟨1, (300 + ((nth ms k).d))⟩ : Ppr)])).length) cp118]) Try.sizeOf72 rfl rfl rfl B123 rfl rfl rfl rfl (fun w124 sw124 B126 u125 => ?_)
      have zu125 := u125.size
      have B126 : Blk w124 bk67 74 [.int .i64 (((nth ms k).a) % 60), .int .i64 (200 + (2 * ((nth ms k).b))), .slice ao116 (((([] ++ [(⟨0, (300 + ((nth ms k).d))⟩ : Ppr)]) ++ [(⟨1, (300 + ((nth ms k).d))⟩ : Ppr)])).length) cp118, .slice none 0 0] := B126
      refine t_nil' (hK107 _ _ (c_region (t_move rfl rfl rfl (t_ari rfl rfl rfl rfl rfl (by omega) (t_samehd (v := .int .i64 2) rfl (t_assign rfl rfl rfl (t_nil' (hK104 _ _ (WR.weak [(1, .int .i64 (p : Int)), (2, .int .i64 (q : Int)), (3, .pointer (some ⟨bk2, 0, none⟩)), (6, .pointer (some ⟨bk7, 0, none⟩)), (9, .pointer (some ⟨bk19, 0, none⟩)), (10, .slice ao out.length co), (11, .slice (some ⟨bk34, 0, none⟩) 0 0), (12, .int .i64 (k : Int)), (13, .pointer (some ⟨bk57, 0, none⟩)), (14, .pointer (some ⟨bk67, 0, none⟩)), (15, .int .i64 2)] ⟨rfl, rfl, rfl, rfl, rfl, rfl, rfl, rfl, rfl, rfl, rfl, trivial⟩ (r_round fun K128 hK128 => (c_seq fun K129 hK129 => (c_seq fun K130 hK130 => (c_region (t_move rfl rfl rfl (t_cmp rfl rfl rfl rfl rfl (t_samehd (v := .bool false) rfl (t_nil' (hK130 _ _ (c_cond_f rfl (c_exit ?_))))))))))))))))))))
      have hpv : papV (nth ms k) = [⟨0, 300 + (nth ms k).d⟩, ⟨1, 300 + (nth ms k).d⟩] := by unfold papV; rw [if_pos gp0, if_pos gp1]; rfl
      have D131 := (A120.keep u125 (fun hb => show ¬ (gb117 = bk67) by first | omega | assumption))
      have B132 : Blk w124 bk67 74 [.int .i64 (((nth ms k).a) % 60), .int .i64 (200 + (2 * ((nth ms k).b))), .slice ao116 ((papV (nth ms k)).length) cp118, .slice none 0 0] := by
        have e : ([.int .i64 (((nth ms k).a) % 60), .int .i64 (200 + (2 * ((nth ms k).b))), .slice ao116 (((([] ++ [(⟨0, (300 + ((nth ms k).d))⟩ : Ppr)]) ++ [(⟨1, (300 + ((nth ms k).d))⟩ : Ppr)])).length) cp118, .slice none 0 0] : List Value) = [.int .i64 (((nth ms k).a) % 60), .int .i64 (200 + (2 * ((nth ms k).b))), .slice ao116 ((papV (nth ms k)).length) cp118, .slice none 0 0] := (by rw [hpv]; rfl)
        rw [← e]; exact B126
      exact hK77 (ao116, gb117, cp118) _ _ ⟨rfl, rfl, rfl, rfl, rfl, rfl, rfl, rfl, rfl, rfl, trivial⟩ ⟨(((((((Upd.refl _ _).next u90 (fun _ _ h => h.elim)).next u97 (fun i hi h => by omega)).next u101 (fun i hi h => by omega)).next u113 (fun _ _ h => h.elim)).next u121 (fun i hi h => by omega)).next u125 (fun i hi h => by omega)), B132, (by rw [hpv]; exact D131)⟩
     have gp1 := g63
     refine c_skip (hK107 _ _ (c_region (t_move rfl rfl rfl (t_ari rfl rfl rfl rfl rfl (by omega) (t_samehd (v := .int .i64 2) rfl (t_assign rfl rfl rfl (t_nil' (hK104 _ _ (WR.weak [(1, .int .i64 (p : Int)), (2, .int .i64 (q : Int)), (3, .pointer (some ⟨bk2, 0, none⟩)), (6, .pointer (some ⟨bk7, 0, none⟩)), (9, .pointer (some ⟨bk19, 0, none⟩)), (10, .slice ao out.length co), (11, .slice (some ⟨bk34, 0, none⟩) 0 0), (12, .int .i64 (k : Int)), (13, .pointer (some ⟨bk57, 0, none⟩)), (14, .pointer (some ⟨bk67, 0, none⟩)), (15, .int .i64 2)] ⟨rfl, rfl, rfl, rfl, rfl, rfl, rfl, rfl, rfl, rfl, rfl, trivial⟩ (r_round fun K133 hK133 => (c_seq fun K134 hK134 => (c_seq fun K135 hK135 => (c_region (t_move rfl rfl rfl (t_cmp rfl rfl rfl rfl rfl (t_samehd (v := .bool false) rfl (t_nil' (hK135 _ _ (c_cond_f rfl (c_exit ?_))))))))))))))))))))
     have hpv : papV (nth ms k) = [⟨0, 300 + (nth ms k).d⟩] := by unfold papV; rw [if_pos gp0, if_neg gp1]; rfl
     have D136 := (A96.keep u101 (fun hb => show ¬ (gb93 = bk67) by first | omega | assumption))
     have B137 : Blk w100 bk67 74 [.int .i64 (((nth ms k).a) % 60), .int .i64 (200 + (2 * ((nth ms k).b))), .slice ao92 ((papV (nth ms k)).length) cp94, .slice none 0 0] := by
       have e : ([.int .i64 (((nth ms k).a) % 60), .int .i64 (200 + (2 * ((nth ms k).b))), .slice ao92 ((([] ++ [(⟨0, (300 + ((nth ms k).d))⟩ : Ppr)])).length) cp94, .slice none 0 0] : List Value) = [.int .i64 (((nth ms k).a) % 60), .int .i64 (200 + (2 * ((nth ms k).b))), .slice ao92 ((papV (nth ms k)).length) cp94, .slice none 0 0] := (by rw [hpv]; rfl)
       rw [← e]; exact B102
     exact hK77 (ao92, gb93, cp94) _ _ ⟨rfl, rfl, rfl, rfl, rfl, rfl, rfl, rfl, rfl, rfl, trivial⟩ ⟨((((Upd.refl _ _).next u90 (fun _ _ h => h.elim)).next u97 (fun i hi h => by omega)).next u101 (fun i hi h => by omega)), B137, (by rw [hpv]; exact D136)⟩
    have gp0 := g63
    refine c_skip (hK84 _ _ (c_region (t_move rfl rfl rfl (t_ari rfl rfl rfl rfl rfl (by omega) (t_samehd (v := .int .i64 1) rfl (t_assign rfl rfl rfl (t_nil' (hK81 _ _ (WR.weak [(1, .int .i64 (p : Int)), (2, .int .i64 (q : Int)), (3, .pointer (some ⟨bk2, 0, none⟩)), (6, .pointer (some ⟨bk7, 0, none⟩)), (9, .pointer (some ⟨bk19, 0, none⟩)), (10, .slice ao out.length co), (11, .slice (some ⟨bk34, 0, none⟩) 0 0), (12, .int .i64 (k : Int)), (13, .pointer (some ⟨bk57, 0, none⟩)), (14, .pointer (some ⟨bk67, 0, none⟩)), (15, .int .i64 1)] ⟨rfl, rfl, rfl, rfl, rfl, rfl, rfl, rfl, rfl, rfl, rfl, trivial⟩ (r_round fun K138 hK138 => (c_seq fun K139 hK139 => (c_seq fun K140 hK140 => (c_region (t_move rfl rfl rfl (t_cmp rfl rfl rfl rfl rfl (t_samehd (v := .bool true) rfl (t_nil' (hK140 _ _ (c_cond_t rfl (c_skip (hK139 _ _ (c_seq fun K141 hK141 => (c_block ?_)))))))))))))))))))))))
    refine c_seq fun K142 hK142 => (c_region (t_indexArr (j := 2) (2) Try.underlying22 Try.sizeOf5 rfl rfl rfl rfl rfl (by decide) rfl (t_load Try.isAgg5 rfl rfl rfl (B86.get rfl) (t_move rfl rfl rfl (t_conv Try.underlying3 Try.underlying105 rfl rfl rfl (IntWalk.u64_in _ (by omega)) (t_shr8b rfl rfl rfl rfl (by omega) (t_and8 rfl rfl rfl rfl (by omega) (by omega) (t_cmp rfl rfl rfl rfl rfl (t_nil' (hK142 _ _ (c_condp rfl (fun g63 => ?_) (fun g63 => ?_))))))))))))
    ·
     have gp1 := g63
     refine c_region (t_field Try.underlying74 rfl Try.sizeOf72 (2) rfl rfl rfl rfl (t_load Try.isAgg72 rfl rfl rfl (B74.get rfl) (t_move rfl rfl rfl (t_indexArr (j := 3) (3) Try.underlying22 Try.sizeOf5 rfl rfl rfl rfl rfl (by decide) rfl (t_load Try.isAgg5 rfl rfl rfl (B86.get rfl) (t_conv Try.underlying5 Try.underlying3 rfl rfl rfl (IntWalk.i64_in _ (by omega)) (t_ari rfl rfl rfl rfl rfl (by omega) (t_build (ps := [(0, .int .i64 1), (1, .int .i64 (300 + ((nth ms k).d)))]) (v := .agg #[.int .i64 1, .int .i64 (300 + ((nth ms k).d))]) rfl rfl ⟨rfl, rfl⟩ (fun w => by kernel_rfl) (t_bslice (ps := [(0, .agg #[.int .i64 1, .int .i64 (300 + ((nth ms k).d))])]) (cs := [.int .i64 1, .int .i64 (300 + ((nth ms k).d))]) (e := 107) rfl rfl ⟨rfl, rfl⟩ (fun w => by kernel_rfl) (fun bk143 w144 ebk143 sbk143 B145 u146 => ?_))))))))))
     have zu146 := u146.size
     have hpn := Acc.nil encPpr 2 107 w72.heap.size w144 (by omega) (by omega)
     refine t_append (z := .agg #[.int .i64 0, .int .i64 0]) (bytes := 16) (k := 2) (base := w72.heap.size) (⟨1, (300 + ((nth ms k).d))⟩ : Ppr) Try.underlying72 (by kernel_rfl) rfl (by decide) (fun _ => rfl) (by intro x; simp [encPpr, Value.oneCell']) rfl rfl rfl rfl hpn B145 (by omega) (by simp) (by decide) (fun ao148 gb149 cp150 w151 A152 u153 gegb149 lngb149 => ?_)
     have zu153 := u153.size
     have lt_gb149 := A152.lt
     refine t_field Try.underlying74 rfl Try.sizeOf72 (2) rfl rfl rfl rfl ?_
     have B155 := ((B74.kx u146).keep u153 (by omega))
     refine t_st (vs := [.slice ao148 ((([] ++ [(⟨1, (300 + ((nth ms k).d))⟩ : Ppr)])).length) cp150]) Try.sizeOf72 rfl rfl rfl B155 rfl rfl rfl rfl (fun w156 sw156 B158 u157 => ?_)
     have zu157 := u157.size
     have B158 : Blk w156 bk67 74 [.int .i64 (((nth ms k).a) % 60), .int .i64 (200 + (2 * ((nth ms k).b))), .slice ao148 ((([] ++ [(⟨1, (300 + ((nth ms k).d))⟩ : Ppr)])).length) cp150, .slice none 0 0] := B158
     refine t_nil' (hK141 _ _ (c_region (t_move rfl rfl rfl (t_ari rfl rfl rfl rfl rfl (by omega) (t_samehd (v := .int .i64 2) rfl (t_assign rfl rfl rfl (t_nil' (hK138 _ _ (WR.weak [(1, .int .i64 (p : Int)), (2, .int .i64 (q : Int)), (3, .pointer (some ⟨bk2, 0, none⟩)), (6, .pointer (some ⟨bk7, 0, none⟩)), (9, .pointer (some ⟨bk19, 0, none⟩)), (10, .slice ao out.length co), (11, .slice (some ⟨bk34, 0, none⟩) 0 0), (12, .int .i64 (k : Int)), (13, .pointer (some ⟨bk57, 0, none⟩)), (14, .pointer (some ⟨bk67, 0, none⟩)), (15, .int .i64 2)] ⟨rfl, rfl, rfl, rfl, rfl, rfl, rfl, rfl, rfl, rfl, rfl, trivial⟩ (r_round fun K160 hK160 => (c_seq fun K161 hK161 => (c_seq fun K162 hK162 => (c_region (t_move rfl rfl rfl (t_cmp rfl rfl rfl rfl rfl (t_samehd (v := .bool false) rfl (t_nil' (hK162 _ _ (c_cond_f rfl (c_exit ?_))))))))))))))))))))
     have hpv : papV (nth ms k) = [⟨1, 300 + (nth ms k).d⟩] := by unfold papV; rw [if_neg gp0, if_pos gp1]; rfl
     have D163 := (A152.keep u157 (fun hb => show ¬ (gb149 = bk67) by first | omega | assumption))
     have B164 : Blk w156 bk67 74 [.int .i64 (((nth ms k).a) % 60), .int .i64 (200 + (2 * ((nth ms k).b))), .slice ao148 ((papV (nth ms k)).length) cp150, .slice none 0 0] := by
       have e : ([.int .i64 (((nth ms k).a) % 60), .int .i64 (200 + (2 * ((nth ms k).b))), .slice ao148 ((([] ++ [(⟨1, (300 + ((nth ms k).d))⟩ : Ppr)])).length) cp150, .slice none 0 0] : List Value) = [.int .i64 (((nth ms k).a) % 60), .int .i64 (200 + (2 * ((nth ms k).b))), .slice ao148 ((papV (nth ms k)).length) cp150, .slice none 0 0] := (by rw [hpv]; rfl)
       rw [← e]; exact B158
     exact hK77 (ao148, gb149, cp150) _ _ ⟨rfl, rfl, rfl, rfl, rfl, rfl, rfl, rfl, rfl, rfl, trivial⟩ ⟨((((Upd.refl _ _).next u146 (fun _ _ h => h.elim)).next u153 (fun i hi h => by omega)).next u157 (fun i hi h => by omega)), B164, (by rw [hpv]; exact D163)⟩
    have gp1 := g63
    refine c_skip (hK141 _ _ (c_region (t_move rfl rfl rfl (t_ari rfl rfl rfl rfl rfl (by omega) (t_samehd (v := .int .i64 2) rfl (t_assign rfl rfl rfl (t_nil' (hK138 _ _ (WR.weak [(1, .int .i64 (p : Int)), (2, .int .i64 (q : Int)), (3, .pointer (some ⟨bk2, 0, none⟩)), (6, .pointer (some ⟨bk7, 0, none⟩)), (9, .pointer (some ⟨bk19, 0, none⟩)), (10, .slice ao out.length co), (11, .slice (some ⟨bk34, 0, none⟩) 0 0), (12, .int .i64 (k : Int)), (13, .pointer (some ⟨bk57, 0, none⟩)), (14, .pointer (some ⟨bk67, 0, none⟩)), (15, .int .i64 2)] ⟨rfl, rfl, rfl, rfl, rfl, rfl, rfl, rfl, rfl, rfl, rfl, trivial⟩ (r_round fun K165 hK165 => (c_seq fun K166 hK166 => (c_seq fun K167 hK167 => (c_region (t_move rfl rfl rfl (t_cmp rfl rfl rfl rfl rfl (t_samehd (v := .bool false) rfl (t_nil' (hK167 _ _ (c_cond_f rfl (c_exit ?_))))))))))))))))))))
    have hpv : papV (nth ms k) = [] := by unfold papV; rw [if_neg gp0, if_neg gp1]; rfl
    have B168 : Blk w72 bk67 74 [.int .i64 (((nth ms k).a) % 60), .int .i64 (200 + (2 * ((nth ms k).b))), .slice none ((papV (nth ms k)).length) 0, .slice none 0 0] := by
      have e : ([.int .i64 (((nth ms k).a) % 60), .int .i64 (200 + (2 * ((nth ms k).b))), .slice none 0 0, .slice none 0 0] : List Value) = [.int .i64 (((nth ms k).a) % 60), .int .i64 (200 + (2 * ((nth ms k).b))), .slice none ((papV (nth ms k)).length) 0, .slice none 0 0] := (by rw [hpv]; rfl)
      rw [← e]; exact B74
    exact hK77 (none, 0, 0) _ _ ⟨rfl, rfl, rfl, rfl, rfl, rfl, rfl, rfl, rfl, rfl, trivial⟩ ⟨(Upd.refl _ _), B168, (by rw [hpv]; exact (Acc.nil encPpr 2 107 w72.heap.size w72 (by omega) (by omega)))⟩
   intro gg w78 hW
   obtain ⟨ap, gp, cp⟩ := gg
   change WC _ _ _ _ _ _ [(1, .int .i64 (p : Int)), (2, .int .i64 (q : Int)), (3, .pointer (some ⟨bk2, 0, none⟩)), (6, .pointer (some ⟨bk7, 0, none⟩)), (9, .pointer (some ⟨bk19, 0, none⟩)), (10, .slice ao out.length co), (11, .slice (some ⟨bk34, 0, none⟩) 0 0), (12, .int .i64 (k : Int)), (13, .pointer (some ⟨bk57, 0, none⟩)), (14, .pointer (some ⟨bk67, 0, none⟩))] _
   change Upd (fun i => i = bk67) w72 w78 ∧ Blk w78 bk67 74 [.int .i64 (((nth ms k).a) % 60), .int .i64 (200 + (2 * ((nth ms k).b))), .slice ap ((papV (nth ms k)).length) cp, .slice none 0 0] ∧ (Acc encPpr 2 107 w72.heap.size w78 ap gp cp (papV (nth ms k))) at hW
   obtain ⟨u79, I169, I170⟩ := hW
   have zu79 := u79.size
   have hpV := I170; clear I170
   have lt_gp := hpV.lt
   refine c_cut (γ := Option Addr × Nat × Nat) (fun gg => [(1, .int .i64 (p : Int)), (2, .int .i64 (q : Int)), (3, .pointer (some ⟨bk2, 0, none⟩)), (6, .pointer (some ⟨bk7, 0, none⟩)), (9, .pointer (some ⟨bk19, 0, none⟩)), (10, .slice ao out.length co), (11, .slice (some ⟨bk34, 0, none⟩) 0 0), (12, .int .i64 (k : Int)), (14, .pointer (some ⟨bk67, 0, none⟩))]) (fun gg w => Upd (fun i => i = bk67) w78 w ∧ Blk w bk67 74 [.int .i64 (((nth ms k).a) % 60), .int .i64 (200 + (2 * ((nth ms k).b))), .slice ap ((papV (nth ms k)).length) cp, .slice gg.1 ((donV (nth ms k)).length) gg.2.2] ∧ (Acc encDty 4 40 w78.heap.size w gg.1 gg.2.1 gg.2.2 (donV (nth ms k)))) (fun K173 hK173 => ?_) ?_
   ·
    refine c_seq fun K176 hK176 => (c_region (t_indexArr (j := 4) (4) Try.underlying22 Try.sizeOf5 rfl rfl rfl rfl rfl (by decide) rfl ?_))
    have B177 := (((B64.kx u70).keep u73 (by omega)).keep u79 (by omega))
    refine t_load Try.isAgg5 rfl rfl rfl (B177.get rfl) (t_rem8 rfl rfl rfl rfl (by omega) (by omega) (t_cmp rfl rfl rfl rfl rfl (t_nil' (hK176 _ _ (c_condp rfl (fun g78 => ?_) (fun g78 => ?_))))))
    ·
     refine c_region (t_indexArr (j := 4) (4) Try.underlying22 Try.sizeOf5 rfl rfl rfl rfl rfl (by decide) rfl (t_load Try.isAgg5 rfl rfl rfl (B177.get rfl) (t_conv Try.underlying5 Try.underlying3 rfl rfl rfl (IntWalk.i64_in _ (by omega)) (t_rem rfl rfl rfl rfl (by omega) (by omega) (t_indexArr (j := 4) (4) Try.underlying22 Try.sizeOf5 rfl rfl rfl rfl rfl (by decide) rfl (t_load Try.isAgg5 rfl rfl rfl (B177.get rfl) (t_conv Try.underlying5 Try.underlying3 rfl rfl rfl (IntWalk.i64_in _ (by omega)) (t_rem rfl rfl rfl rfl (by omega) (by omega) (t_indexArr (j := 3) (3) Try.underlying22 Try.sizeOf5 rfl rfl rfl rfl rfl (by decide) rfl (t_load Try.isAgg5 rfl rfl rfl (B177.get rfl) (t_conv Try.underlying5 Try.underlying3 rfl rfl rfl (IntWalk.i64_in _ (by omega)) (t_rem rfl rfl rfl rfl (by omega) (by omega) (t_ari rfl rfl rfl rfl rfl (by omega) (t_call own15 rfl rfl rfl rfl (duty_c (((nth ms k).e) % 20) ((((nth ms k).e) % 20) + (((nth ms k).d) % 40)) _) (fun v178 w179 r181 => ?_)))))))))))))))
     obtain ⟨rfl, u180⟩ := r181
     have zu180 := u180.size
     refine t_bslice (ps := [(0, .agg #[.int .i64 (((nth ms k).e) % 20), .int .i64 (((nth ms k).e) % 20), .int .i64 ((((nth ms k).e) % 20) + (((nth ms k).d) % 40)), .int .i64 ((((nth ms k).e) % 20) + (((nth ms k).d) % 40))])]) (cs := [.int .i64 (((nth ms k).e) % 20), .int .i64 (((nth ms k).e) % 20), .int .i64 ((((nth ms k).e) % 20) + (((nth ms k).d) % 40)), .int .i64 ((((nth ms k).e) % 20) + (((nth ms k).d) % 40))]) (e := 40) rfl rfl ⟨rfl, rfl⟩ (fun w => by kernel_rfl) (fun bk183 w184 ebk183 sbk183 B185 u186 => ?_)
     have zu186 := u186.size
     refine t_field Try.underlying74 rfl Try.sizeOf30 (3) rfl rfl rfl rfl ?_
     have B188 := ((I169.kx u180).kx u186)
     refine t_st (vs := [.slice (some ⟨bk183, 0, none⟩) 1 1]) Try.sizeOf30 rfl rfl rfl B188 rfl rfl rfl rfl (fun w189 sw189 B191 u190 => ?_)
     have zu190 := u190.size
     have B191 : Blk w189 bk67 74 [.int .i64 (((nth ms k).a) % 60), .int .i64 (200 + (2 * ((nth ms k).b))), .slice ap ((papV (nth ms k)).length) cp, .slice (some ⟨bk183, 0, none⟩) 1 1] := B191
     refine t_nil' ?_
     have B193 := (B185.keep u190 (by omega))
     have hdv : donV (nth ms k) = [⟨(((nth ms k).e) % 20), (((nth ms k).e) % 20), ((((nth ms k).e) % 20) + (((nth ms k).d) % 40)), ((((nth ms k).e) % 20) + (((nth ms k).d) % 40))⟩] := by unfold donV; rw [if_pos g78]
     have B194 : Blk w189 bk67 74 [.int .i64 (((nth ms k).a) % 60), .int .i64 (200 + (2 * ((nth ms k).b))), .slice ap ((papV (nth ms k)).length) cp, .slice (some ⟨bk183, 0, none⟩) ((donV (nth ms k)).length) 1] := by
       have e : ([.int .i64 (((nth ms k).a) % 60), .int .i64 (200 + (2 * ((nth ms k).b))), .slice ap ((papV (nth ms k)).length) cp, .slice (some ⟨bk183, 0, none⟩) 1 1] : List Value) = [.int .i64 (((nth ms k).a) % 60), .int .i64 (200 + (2 * ((nth ms k).b))), .slice ap ((papV (nth ms k)).length) cp, .slice (some ⟨bk183, 0, none⟩) ((donV (nth ms k)).length) 1] := (by rw [hdv]; rfl)
       rw [← e]; exact B191
     exact hK173 (some ⟨bk183, 0, none⟩, bk183, 1) _ _ ⟨rfl, rfl, rfl, rfl, rfl, rfl, rfl, rfl, rfl, trivial⟩ ⟨((((Upd.refl _ _).next u180 (fun _ _ h => h.elim)).next u186 (fun _ _ h => h.elim)).next u190 (fun i hi h => by omega)), B194, (by rw [hdv]; exact (Acc.ofRaw (cs := [.int .i64 (((nth ms k).e) % 20), .int .i64 (((nth ms k).e) % 20), .int .i64 ((((nth ms k).e) % 20) + (((nth ms k).d) % 40)), .int .i64 ((((nth ms k).e) % 20) + (((nth ms k).d) % 40))]) B193 (by omega) (Nat.le_refl _) (by show 1 ≤ maxLen; decide) rfl rfl))⟩
    refine c_skip ?_
    have hdv : donV (nth ms k) = [] := by unfold donV; rw [if_neg g78]
    have B195 : Blk w78 bk67 74 [.int .i64 (((nth ms k).a) % 60), .int .i64 (200 + (2 * ((nth ms k).b))), .slice ap ((papV (nth ms k)).length) cp, .slice none ((donV (nth ms k)).length) 0] := by
      have e : ([.int .i64 (((nth ms k).a) % 60), .int .i64 (200 + (2 * ((nth ms k).b))), .slice ap ((papV (nth ms k)).length) cp, .slice none 0 0] : List Value) = [.int .i64 (((nth ms k).a) % 60), .int .i64 (200 + (2 * ((nth ms k).b))), .slice ap ((papV (nth ms k)).length) cp, .slice none ((donV (nth ms k)).length) 0] := (by rw [hdv]; rfl)
      rw [← e]; exact I169
    exact hK173 (none, 0, 0) _ _ ⟨rfl, rfl, rfl, rfl, rfl, rfl, rfl, rfl, rfl, trivial⟩ ⟨(Upd.refl _ _), B195, (by rw [hdv]; exact (Acc.nil encDty 4 40 w78.heap.size w78 (by omega) (by omega)))⟩
   intro gg w174 hW
   obtain ⟨ad, gd, cd⟩ := gg
   change WC _ _ _ _ _ _ [(1, .int .i64 (p : Int)), (2, .int .i64 (q : Int)), (3, .pointer (some ⟨bk2, 0, none⟩)), (6, .pointer (some ⟨bk7, 0, none⟩)), (9, .pointer (some ⟨bk19, 0, none⟩)), (10, .slice ao out.length co), (11, .slice (some ⟨bk34, 0, none⟩) 0 0), (12, .int .i64 (k : Int)), (14, .pointer (some ⟨bk67, 0, none⟩))] _
   change Upd (fun i => i = bk67) w78 w174 ∧ Blk w174 bk67 74 [.int .i64 (((nth ms k).a) % 60), .int .i64 (200 + (2 * ((nth ms k).b))), .slice ap ((papV (nth ms k)).length) cp, .slice ad ((donV (nth ms k)).length) cd] ∧ (Acc encDty 4 40 w78.heap.size w174 ad gd cd (donV (nth ms k))) at hW
   obtain ⟨u175, I196, I197⟩ := hW
   have zu175 := u175.size
   have hdV := I197; clear I197
   have lt_gd := hdV.lt
   refine c_region (t_move rfl rfl rfl (t_loadN (vs := [.int .i64 (((nth ms k).a) % 60), .int .i64 (200 + (2 * ((nth ms k).b))), .slice ap ((papV (nth ms k)).length) cp, .slice ad ((donV (nth ms k)).length) cd]) Try.isAgg74 Try.sizeOf74 rfl rfl rfl (I196.at.sub 0 4) rfl (t_bslice (ps := [(0, .agg #[.int .i64 (((nth ms k).a) % 60), .int .i64 (200 + (2 * ((nth ms k).b))), .slice ap ((papV (nth ms k)).length) cp, .slice ad ((donV (nth ms k)).length) cd])]) (cs := [.int .i64 (((nth ms k).a) % 60), .int .i64 (200 + (2 * ((nth ms k).b))), .slice ap ((papV (nth ms k)).length) cp, .slice ad ((donV (nth ms k)).length) cd]) (e := 74) rfl rfl ⟨rfl, rfl⟩ (fun w => by kernel_rfl) (fun bk199 w200 ebk199 sbk199 B201 u202 => ?_))))
   have zu202 := u202.size
   have D204 := (((((((hout.keep u60 (fun _ h => h)).keep u63 (fun hb => show ¬ (go = bk57) by first | omega | assumption)).keep u70 (fun _ h => h)).keep u73 (fun hb => show ¬ (go = bk67) by first | omega | assumption)).keep u79 (fun hb => show ¬ (go = bk67) by first | omega | assumption)).keep u175 (fun hb => show ¬ (go = bk67) by first | omega | assumption)).keep u202 (fun _ h => h))
   refine t_append (z := .agg #[.int .i64 0, .int .i64 0, .slice none 0 0, .slice none 0 0]) (bytes := 64) (k := 4) (base := bk29) (⟨(nth ms k).a % 60, 200 + 2 * (nth ms k).b, papV (nth ms k), ap, gp, 0, cp, donV (nth ms k), ad, gd, 0, cd⟩ : HS) Try.underlying62 (by kernel_rfl) rfl (by decide) (fun _ => rfl) (by intro x; simp [encHS, Value.oneCell']) rfl rfl rfl rfl D204 B201 (by omega) (by omega) (by decide) (fun ao205 gb206 cp207 w208 A209 u210 gegb206 lngb206 => ?_)
   have zu210 := u210.size
   have lt_gb206 := A209.lt
   refine t_assign rfl rfl rfl (t_nil' (hK54 _ _ (c_region (t_move rfl rfl rfl (t_ari rfl rfl rfl rfl rfl (by omega) (t_assign rfl rfl rfl (t_nil' ?_)))))))
   have D212 := (((hpV.keep u175 (fun hb => show ¬ (gp = bk67) by first | omega | assumption)).keep u202 (fun _ h => h)).keep u210 (fun hb => show ¬ ((gp = go ∧ bk29 ≤ gp)) by first | omega | assumption))
   have D213 := ((hdV.keep u202 (fun _ h => h)).keep u210 (fun hb => show ¬ ((gd = go ∧ bk29 ≤ gd)) by first | omega | assumption))
   have uR := (((((((((Upd.refl (fun i => i = go ∧ bk29 ≤ i) w43).next u60 (fun _ _ h => h.elim)).next u63 (fun i hi (h : i = bk57) => show i = go ∧ bk29 ≤ i by omega)).next u70 (fun _ _ h => h.elim)).next u73 (fun i hi (h : i = bk67) => show i = go ∧ bk29 ≤ i by omega)).next u79 (fun i hi (h : i = bk67) => show i = go ∧ bk29 ≤ i by omega)).next u175 (fun i hi (h : i = bk67) => show i = go ∧ bk29 ≤ i by omega)).next u202 (fun _ _ h => h.elim)).next u210 (fun i hi (h : (i = go ∧ bk29 ≤ i)) => show i = go ∧ bk29 ≤ i by omega))
   have hpA := D212
   have hdA := D213
   exact hK42 (k + 1, ao205, gb206, cp207, (out ++ [(⟨(nth ms k).a % 60, 200 + 2 * (nth ms k).b, papV (nth ms k), ap, gp, 0, cp, donV (nth ms k), ad, gd, 0, cd⟩ : HS)])) _ _ (by show p - (k + 1) < p - k; omega) ⟨rfl, rfl, rfl, rfl, rfl, rfl, rfl, rfl, trivial⟩ ⟨((((((((u44.next u60 (fun _ _ h => h.elim)).next u63 (fun i hi (h : i = bk57) => show i = bk29 ∨ bk34 < i by first | omega | assumption)).next u70 (fun _ _ h => h.elim)).next u73 (fun i hi (h : i = bk67) => show i = bk29 ∨ bk34 < i by first | omega | assumption)).next u79 (fun i hi (h : i = bk67) => show i = bk29 ∨ bk34 < i by first | omega | assumption)).next u175 (fun i hi (h : i = bk67) => show i = bk29 ∨ bk34 < i by first | omega | assumption)).next u202 (fun _ _ h => h.elim)).next u210 (fun i hi (h : (i = go ∧ bk29 ≤ i)) => show i = bk29 ∨ bk34 < i by first | omega | assumption)), (by omega), A209, (by rw [List.map_append, hom, take_nth (by omega), List.map_append]; rfl), (fun h hh => by
     rcases List.mem_append.1 hh with q | q
     · exact (hoc h q).upd uR (fun _ cs hB => hout0.notBlk hB (by decide)) (fun _ cs hB => hout0.notBlk hB (by decide))
     · rw [List.mem_singleton.1 q]; exact ⟨⟨_, by omega, hpA⟩, rfl, ⟨_, by omega, hdA⟩, rfl, by have := hpo.1; show (papV (nth ms k)).length ≤ 1000000; omega, by have := hdo.1; show (donV (nth ms k)).length ≤ 1000000; omega⟩), (by show gb206 = bk29 ∨ bk34 < gb206; omega)⟩
  refine c_exit (hK39 _ _ (c_seq fun K214 hK214 => (c_seq fun K215 hK215 => (c_region (t_assign rfl rfl rfl (t_nil' (hK215 _ _ (c_block ?_))))))))
  have B216 := (B36.keep u44 (show ¬ (bk34 = bk29 ∨ bk34 < bk34) by first | omega | assumption))
  have B217 := ((((((B9.kx u16).kx u22).keep u25 (by omega)).kx u32).kx u37).keep u44 (show ¬ (bk7 = bk29 ∨ bk34 < bk7) by first | omega | assumption))
  have hme : out.map HS.slr = (ms.take p).map slV := by
    rw [hom]
    rcases Nat.lt_or_ge k p with q | q
    · rw [List.take_of_length_le (show ms.length ≤ k by omega), List.take_of_length_le (show ms.length ≤ p by omega)]
    · rw [show k = p by omega]
  have hT2 := B216.lt
  have hocL : ∀ h ∈ out, SlrC bk29 w43 h := fun h hh => (hoc h hh).ext (Upd.refl (fun _ => False) _)
  refine c_loop (γ := Nat × Option Addr × Nat × Nat × List Leg) (fun gg => [(2, .int .i64 (q : Int)), (3, .pointer (some ⟨bk2, 0, none⟩)), (6, .pointer (some ⟨bk7, 0, none⟩)), (9, .pointer (some ⟨bk19, 0, none⟩)), (10, .slice ao out.length co), (11, .slice gg.2.1 gg.2.2.2.2.length gg.2.2.2.1), (16, .int .i64 (gg.1 : Int))]) (fun gg w => Upd (fun i => i = bk34 ∨ w43.heap.size ≤ i) w43 w ∧ (gg.1 ≤ ls.length ∧ gg.1 ≤ q) ∧ (Acc encLeg 7 77 bk34 w gg.2.1 gg.2.2.1 gg.2.2.2.1 gg.2.2.2.2) ∧ (gg.2.2.2.2 = (ls.take gg.1).map legV) ∧ (gg.2.2.1 = bk34 ∨ w43.heap.size ≤ gg.2.2.1)) (fun gg => q - gg.1) (0, some ⟨bk34, 0, none⟩, bk34, 0, []) ⟨rfl, rfl, rfl, rfl, rfl, rfl, rfl, trivial⟩ ⟨Upd.refl _ _, (by omega), (Acc.ofRaw (cs := []) B216 (Nat.le_refl _) (Nat.le_refl _) (Nat.zero_le _) (by rfl) (by rfl)), rfl, (.inl rfl)⟩ ?_
  intro gg w219 hW K218 hK218
  obtain ⟨j, ax2, gx2, cx2, lo⟩ := gg
  change WC _ _ _ _ _ _ [(2, .int .i64 (q : Int)), (3, .pointer (some ⟨bk2, 0, none⟩)), (6, .pointer (some ⟨bk7, 0, none⟩)), (9, .pointer (some ⟨bk19, 0, none⟩)), (10, .slice ao out.length co), (11, .slice ax2 lo.length cx2), (16, .int .i64 (j : Int))] _
  change Upd (fun i => i = bk34 ∨ w43.heap.size ≤ i) w43 w219 ∧ (j ≤ ls.length ∧ j ≤ q) ∧ (Acc encLeg 7 77 bk34 w219 ax2 gx2 cx2 lo) ∧ (lo = (ls.take j).map legV) ∧ (gx2 = bk34 ∨ w43.heap.size ≤ gx2) at hW
  obtain ⟨u220, I221, I222, I223, I224⟩ := hW
  have zu220 := u220.size
  have E225 := E50.next u220 (fun i hi (h : i = bk34 ∨ w43.heap.size ≤ i) => show False by first | omega | assumption)
  have hj := I221; clear I221
  have hlo := I222; clear I222
  have hlm := I223; clear I223
  have hgx := I224; clear I224
  have lt_gx2 := hlo.lt
  have hll : lo.length = j := by rw [hlm, List.length_map, List.length_take]; omega
  refine c_seq fun K226 hK226 => (c_seq fun K227 hK227 => (c_region (t_move rfl rfl rfl (t_field Try.underlying61 rfl Try.sizeOf59 (6) rfl rfl rfl rfl ?_))))
  have B228 := (B53.keep u220 (show ¬ (bk2 = bk34 ∨ w43.heap.size ≤ bk2) by first | omega | assumption))
  refine t_load Try.isAgg59 rfl rfl rfl (B228.get rfl) (t_len Try.underlying59 rfl rfl rfl rfl (t_cmp rfl rfl rfl rfl rfl (t_move rfl rfl rfl (t_splitp 104 rfl (fun g104 => ?_) (fun g104 => ?_)))))
  ·
   refine t_move rfl rfl rfl (t_move rfl rfl rfl (t_cmp rfl rfl rfl rfl rfl (t_pick_t rfl rfl rfl rfl (t_nil' (hK227 _ _ (c_condp rfl (fun g108 => ?_) (fun g108 => ?_)))))))
   ·
    have hv9 := hls _ (nth_mem (show j < ls.length by omega))
    unfold okU5 at hv9
    have a1 := Int.emod_nonneg ((nth ls j).d / 2) (show (1 + (nth ls j).d % 2) + 1 ≠ 0 by omega)
    have a2 := Int.emod_lt_of_pos ((nth ls j).d / 2) (show 0 < (1 + (nth ls j).d % 2) + 1 by omega)
    refine c_skip (hK226 _ _ (c_seq fun K229 hK229 => (c_block (c_seq fun K230 hK230 => (c_region (t_field Try.underlying61 rfl Try.sizeOf59 (6) rfl rfl rfl rfl (t_load Try.isAgg59 rfl rfl rfl (B228.get rfl) (t_move rfl rfl rfl ?_))))))))
    have i231 : j < ls.length := (by omega)
    refine t_index (j := j) Try.underlying59 Try.sizeOf22 rfl rfl rfl rfl ((hl9.keep E225 (fun _ h => h)).addr (by omega)) rfl i231 (t_loadN (vs := [.int .u8 ((nth ls j).a), .int .u8 ((nth ls j).b), .int .u8 ((nth ls j).c), .int .u8 ((nth ls j).d), .int .u8 ((nth ls j).e)]) Try.isAgg22 Try.sizeOf22 rfl rfl rfl (((hl9.keep E225 (fun _ h => h)).at_ j (by omega)).sub 0 5) rfl (t_alloc (cs := [.int .u8 0, .int .u8 0, .int .u8 0, .int .u8 0, .int .u8 0]) Try.zeroValue22 rfl rfl rfl (fun bk232 w233 ebk232 sbk232 B234 u235 => ?_)))
    have zu235 := u235.size
    refine t_st (vs := [.int .u8 ((nth ls j).a), .int .u8 ((nth ls j).b), .int .u8 ((nth ls j).c), .int .u8 ((nth ls j).d), .int .u8 ((nth ls j).e)]) Try.sizeOf22 rfl rfl rfl B234 rfl rfl rfl rfl (fun w237 sw237 B239 u238 => ?_)
    have zu238 := u238.size
    have B239 : Blk w237 bk232 22 [.int .u8 ((nth ls j).a), .int .u8 ((nth ls j).b), .int .u8 ((nth ls j).c), .int .u8 ((nth ls j).d), .int .u8 ((nth ls j).e)] := B239
    refine t_nil' (hK230 _ _ (c_seq fun K241 hK241 => (c_region (t_indexArr (j := 1) (1) Try.underlying22 Try.sizeOf5 rfl rfl rfl rfl rfl (by decide) rfl (t_load Try.isAgg5 rfl rfl rfl (B239.get rfl) (t_conv Try.underlying5 Try.underlying3 rfl rfl rfl (IntWalk.i64_in _ (by omega)) (t_ari rfl rfl rfl rfl rfl (by omega) (t_assign rfl rfl rfl (t_nil' (hK241 _ _ (c_seq fun K242 hK242 => (c_region (t_indexArr (j := 0) (0) Try.underlying22 Try.sizeOf5 rfl rfl rfl rfl rfl (by decide) rfl (t_load Try.isAgg5 rfl rfl rfl (B239.get rfl) (t_conv Try.underlying5 Try.underlying3 rfl rfl rfl (IntWalk.i64_in _ (by omega)) (t_rem rfl rfl rfl rfl (by omega) (by omega) (t_move rfl rfl rfl (t_move rfl rfl rfl (t_indexArr (j := 4) (4) Try.underlying22 Try.sizeOf5 rfl rfl rfl rfl rfl (by decide) rfl (t_load Try.isAgg5 rfl rfl rfl (B239.get rfl) (t_conv Try.underlying5 Try.underlying3 rfl rfl rfl (IntWalk.i64_in _ (by omega)) (t_rem rfl rfl rfl rfl (by omega) (by omega) (t_ari rfl rfl rfl rfl rfl (by omega) ?_)))))))))))))))))))))))
    refine t_build (ps := [(0, .int .i64 (2 * ((nth ls j).b))), (1, .int .i64 ((2 * ((nth ls j).b)) + (((nth ls j).e) % 5)))]) (v := .agg #[.int .i64 (2 * ((nth ls j).b)), .int .i64 ((2 * ((nth ls j).b)) + (((nth ls j).e) % 5))]) rfl rfl ⟨rfl, rfl⟩ (fun w => by kernel_rfl) (t_move rfl rfl rfl (t_ari rfl rfl rfl rfl rfl (by omega) (t_indexArr (j := 2) (2) Try.underlying22 Try.sizeOf5 rfl rfl rfl rfl rfl (by decide) rfl (t_load Try.isAgg5 rfl rfl rfl (B239.get rfl) (t_conv Try.underlying5 Try.underlying3 rfl rfl rfl (IntWalk.i64_in _ (by omega)) (t_rem rfl rfl rfl rfl (by omega) (by omega) (t_ari rfl rfl rfl rfl rfl (by omega) (t_move rfl rfl rfl (t_ari rfl rfl rfl rfl rfl (by omega) (t_indexArr (j := 2) (2) Try.underlying22 Try.sizeOf5 rfl rfl rfl rfl rfl (by decide) rfl (t_load Try.isAgg5 rfl rfl rfl (B239.get rfl) (t_conv Try.underlying5 Try.underlying3 rfl rfl rfl (IntWalk.i64_in _ (by omega)) (t_rem rfl rfl rfl rfl (by omega) (by omega) (t_ari rfl rfl rfl rfl rfl (by omega) (t_build (ps := [(0, .int .i64 (((2 * ((nth ls j).b)) + 5) + (((nth ls j).c) % 60))), (1, .int .i64 (((2 * ((nth ls j).b)) + 10) + (((nth ls j).c) % 60)))]) (v := .agg #[.int .i64 (((2 * ((nth ls j).b)) + 5) + (((nth ls j).c) % 60)), .int .i64 (((2 * ((nth ls j).b)) + 10) + (((nth ls j).c) % 60))]) rfl rfl ⟨rfl, rfl⟩ (fun w => by kernel_rfl) (t_build (ps := [(0, .agg #[.int .i64 (2 * ((nth ls j).b)), .int .i64 ((2 * ((nth ls j).b)) + (((nth ls j).e) % 5))]), (1, .agg #[.int .i64 (((2 * ((nth ls j).b)) + 5) + (((nth ls j).c) % 60)), .int .i64 (((2 * ((nth ls j).b)) + 10) + (((nth ls j).c) % 60))])]) (v := .agg #[.int .i64 (2 * ((nth ls j).b)), .int .i64 ((2 * ((nth ls j).b)) + (((nth ls j).e) % 5)), .int .i64 (((2 * ((nth ls j).b)) + 5) + (((nth ls j).c) % 60)), .int .i64 (((2 * ((nth ls j).b)) + 10) + (((nth ls j).c) % 60))]) rfl rfl ⟨rfl, rfl⟩ (fun w => by kernel_rfl) (t_indexArr (j := 3) (3) Try.underlying22 Try.sizeOf5 rfl rfl rfl rfl rfl (by decide) rfl (t_load Try.isAgg5 rfl rfl rfl (B239.get rfl) (t_conv Try.underlying5 Try.underlying3 rfl rfl rfl (IntWalk.i64_in _ (by omega)) (t_rem rfl rfl rfl rfl (by omega) (by omega) (t_ari rfl rfl rfl rfl rfl (by omega) (t_build (ps := [(0, .int .i64 (((nth ls j).a) % 3)), (1, .agg #[.int .i64 (2 * ((nth ls j).b)), .int .i64 ((2 * ((nth ls j).b)) + (((nth ls j).e) % 5)), .int .i64 (((2 * ((nth ls j).b)) + 5) + (((nth ls j).c) % 60)), .int .i64 (((2 * ((nth ls j).b)) + 10) + (((nth ls j).c) % 60))]), (2, .int .i64 (1 + (((nth ls j).d) % 2)))]) (v := .agg #[.int .i64 (((nth ls j).a) % 3), .int .i64 (2 * ((nth ls j).b)), .int .i64 ((2 * ((nth ls j).b)) + (((nth ls j).e) % 5)), .int .i64 (((2 * ((nth ls j).b)) + 5) + (((nth ls j).c) % 60)), .int .i64 (((2 * ((nth ls j).b)) + 10) + (((nth ls j).c) % 60)), .int .i64 (1 + (((nth ls j).d) % 2)), .int .i64 0]) rfl rfl ⟨rfl, rfl⟩ (fun w => by kernel_rfl) (t_alloc (cs := [.int .i64 0, .int .i64 0, .int .i64 0, .int .i64 0, .int .i64 0, .int .i64 0, .int .i64 0]) Try.zeroValue77 rfl rfl rfl (fun bk243 w244 ebk243 sbk243 B245 u246 => ?_))))))))))))))))))))))))
    have zu246 := u246.size
    refine t_st (vs := [.int .i64 (((nth ls j).a) % 3), .int .i64 (2 * ((nth ls j).b)), .int .i64 ((2 * ((nth ls j).b)) + (((nth ls j).e) % 5)), .int .i64 (((2 * ((nth ls j).b)) + 5) + (((nth ls j).c) % 60)), .int .i64 (((2 * ((nth ls j).b)) + 10) + (((nth ls j).c) % 60)), .int .i64 (1 + (((nth ls j).d) % 2)), .int .i64 0]) Try.sizeOf77 rfl rfl rfl B245 rfl rfl rfl rfl (fun w248 sw248 B250 u249 => ?_)
    have zu249 := u249.size
    have B250 : Blk w248 bk243 77 [.int .i64 (((nth ls j).a) % 3), .int .i64 (2 * ((nth ls j).b)), .int .i64 ((2 * ((nth ls j).b)) + (((nth ls j).e) % 5)), .int .i64 (((2 * ((nth ls j).b)) + 5) + (((nth ls j).c) % 60)), .int .i64 (((2 * ((nth ls j).b)) + 10) + (((nth ls j).c) % 60)), .int .i64 (1 + (((nth ls j).d) % 2)), .int .i64 0] := B250
    refine t_nil' (hK242 _ _ (c_seq fun K252 hK252 => (c_region (t_indexArr (j := 3) (3) Try.underlying22 Try.sizeOf5 rfl rfl rfl rfl rfl (by decide) rfl ?_))))
    have B253 := ((B239.kx u246).keep u249 (by omega))
    refine t_load Try.isAgg5 rfl rfl rfl (B253.get rfl) (t_conv Try.underlying5 Try.underlying3 rfl rfl rfl (IntWalk.i64_in _ (by omega)) (t_quo rfl rfl rfl rfl (by omega) (by omega) (t_field Try.underlying77 rfl Try.sizeOf3 (5) rfl rfl rfl rfl (t_load Try.isAgg3 rfl rfl rfl (B250.get rfl) (t_ari rfl rfl rfl rfl rfl (by omega) (t_rem rfl rfl rfl rfl (by omega) (by omega) (t_field Try.underlying77 rfl Try.sizeOf3 (6) rfl rfl rfl rfl (t_st (vs := [.int .i64 ((((nth ls j).d) / 2) % ((1 + (((nth ls j).d) % 2)) + 1))]) Try.sizeOf3 rfl rfl rfl B250 rfl rfl rfl rfl (fun w254 sw254 B256 u255 => ?_)))))))))
    have zu255 := u255.size
    have B256 : Blk w254 bk243 77 [.int .i64 (((nth ls j).a) % 3), .int .i64 (2 * ((nth ls j).b)), .int .i64 ((2 * ((nth ls j).b)) + (((nth ls j).e) % 5)), .int .i64 (((2 * ((nth ls j).b)) + 5) + (((nth ls j).c) % 60)), .int .i64 (((2 * ((nth ls j).b)) + 10) + (((nth ls j).c) % 60)), .int .i64 (1 + (((nth ls j).d) % 2)), .int .i64 ((((nth ls j).d) / 2) % ((1 + (((nth ls j).d) % 2)) + 1))] := B256
    refine t_nil' (hK252 _ _ (c_region (t_move rfl rfl rfl (t_loadN (vs := [.int .i64 (((nth ls j).a) % 3), .int .i64 (2 * ((nth ls j).b)), .int .i64 ((2 * ((nth ls j).b)) + (((nth ls j).e) % 5)), .int .i64 (((2 * ((nth ls j).b)) + 5) + (((nth ls j).c) % 60)), .int .i64 (((2 * ((nth ls j).b)) + 10) + (((nth ls j).c) % 60)), .int .i64 (1 + (((nth ls j).d) % 2)), .int .i64 ((((nth ls j).d) / 2) % ((1 + (((nth ls j).d) % 2)) + 1))]) Try.isAgg77 Try.sizeOf77 rfl rfl rfl (B256.at.sub 0 7) rfl (t_bslice (ps := [(0, .agg #[.int .i64 (((nth ls j).a) % 3), .int .i64 (2 * ((nth ls j).b)), .int .i64 ((2 * ((nth ls j).b)) + (((nth ls j).e) % 5)), .int .i64 (((2 * ((nth ls j).b)) + 5) + (((nth ls j).c) % 60)), .int .i64 (((2 * ((nth ls j).b)) + 10) + (((nth ls j).c) % 60)), .int .i64 (1 + (((nth ls j).d) % 2)), .int .i64 ((((nth ls j).d) / 2) % ((1 + (((nth ls j).d) % 2)) + 1))])]) (cs := [.int .i64 (((nth ls j).a) % 3), .int .i64 (2 * ((nth ls j).b)), .int .i64 ((2 * ((nth ls j).b)) + (((nth ls j).e) % 5)), .int .i64 (((2 * ((nth ls j).b)) + 5) + (((nth ls j).c) % 60)), .int .i64 (((2 * ((nth ls j).b)) + 10) + (((nth ls j).c) % 60)), .int .i64 (1 + (((nth ls j).d) % 2)), .int .i64 ((((nth ls j).d) / 2) % ((1 + (((nth ls j).d) % 2)) + 1))]) (e := 77) rfl rfl ⟨rfl, rfl⟩ (fun w => by kernel_rfl) (fun bk258 w259 ebk258 sbk258 B260 u261 => ?_))))))
    have zu261 := u261.size
    have D263 := ((((((hlo.keep u235 (fun _ h => h)).keep u238 (fun hb => show ¬ (gx2 = bk232) by first | omega | assumption)).keep u246 (fun _ h => h)).keep u249 (fun hb => show ¬ (gx2 = bk243) by first | omega | assumption)).keep u255 (fun hb => show ¬ (gx2 = bk243) by first | omega | assumption)).keep u261 (fun _ h => h))
    refine t_append (z := .agg #[.int .i64 0, .int .i64 0, .int .i64 0, .int .i64 0, .int .i64 0, .int .i64 0, .int .i64 0]) (bytes := 56) (k := 7) (base := bk34) (legV (nth ls j)) Try.underlying63 (by kernel_rfl) rfl (by decide) (fun _ => rfl) (by intro x; simp [encLeg, Value.oneCell']) rfl rfl rfl rfl D263 B260 (by omega) (by omega) (by decide) (fun ao264 gb265 cp266 w267 A268 u269 gegb265 lngb265 => ?_)
    have zu269 := u269.size
    have lt_gb265 := A268.lt
    refine t_assign rfl rfl rfl (t_nil' (hK229 _ _ (c_region (t_move rfl rfl rfl (t_ari rfl rfl rfl rfl rfl (by omega) (t_assign rfl rfl rfl (t_nil' ?_)))))))
    exact hK218 (j + 1, ao264, gb265, cp266, (lo ++ [(legV (nth ls j))])) _ _ (by show q - (j + 1) < q - j; omega) ⟨rfl, rfl, rfl, rfl, rfl, rfl, rfl, trivial⟩ ⟨(((((((u220.next u235 (fun _ _ h => h.elim)).next u238 (fun i hi (h : i = bk232) => show i = bk34 ∨ w43.heap.size ≤ i by first | omega | assumption)).next u246 (fun _ _ h => h.elim)).next u249 (fun i hi (h : i = bk243) => show i = bk34 ∨ w43.heap.size ≤ i by first | omega | assumption)).next u255 (fun i hi (h : i = bk243) => show i = bk34 ∨ w43.heap.size ≤ i by first | omega | assumption)).next u261 (fun _ _ h => h.elim)).next u269 (fun i hi (h : (i = gx2 ∧ bk34 ≤ i)) => show i = bk34 ∨ w43.heap.size ≤ i by first | omega | assumption)), (by omega), A268, (by rw [hlm, take_nth (by omega), List.map_append]; rfl), (by show gb265 = bk34 ∨ w43.heap.size ≤ gb265; omega)⟩
   refine c_exit (hK214 _ _ (c_seq fun K271 hK271 => (c_region ?_)))
   have B272 := ((((B26.kx u32).kx u37).keep u44 (show ¬ (bk19 = bk29 ∨ bk34 < bk19) by first | omega | assumption)).keep u220 (show ¬ (bk19 = bk34 ∨ w43.heap.size ≤ bk19) by first | omega | assumption))
   refine t_loadN (vs := [.int .i64 ((smR u).rest), .int .i64 ((smR u).span), .int .i64 ((smR u).work), .int .i64 ((smR u).week), .int .i64 ((smR u).ww)]) Try.isAgg28 Try.sizeOf28 rfl rfl rfl (B272.at.sub 0 5) rfl (t_move rfl rfl rfl (t_move rfl rfl rfl ?_))
   have B273 := (B217.keep u220 (show ¬ (bk7 = bk34 ∨ w43.heap.size ≤ bk7) by first | omega | assumption))
   refine t_st (vs := [.int .i64 ((smR u).rest), .int .i64 ((smR u).span), .int .i64 ((smR u).work), .int .i64 ((smR u).week), .int .i64 ((smR u).ww)]) Try.sizeOf28 rfl rfl rfl B273 rfl rfl rfl rfl (fun w274 sw274 B276 u275 => ?_)
   have zu275 := u275.size
   have B276 : Blk w274 bk7 28 [.int .i64 ((smR u).rest), .int .i64 ((smR u).span), .int .i64 ((smR u).work), .int .i64 ((smR u).week), .int .i64 ((smR u).ww)] := B276
   refine t_assign rfl rfl rfl (t_assign rfl rfl rfl (t_nil' (hK271 _ _ (c_ret (f_ret3 (v1 := .agg #[.int .i64 ((smR u).rest), .int .i64 ((smR u).span), .int .i64 ((smR u).work), .int .i64 ((smR u).week), .int .i64 ((smR u).ww)]) (v2 := .slice ao out.length co) (v3 := .slice ax2 lo.length cx2) Try.results17 ⟨_, _, rfl, run_loadVarN (vs := [.int .i64 ((smR u).rest), .int .i64 ((smR u).span), .int .i64 ((smR u).work), .int .i64 ((smR u).week), .int .i64 ((smR u).ww)]) Try.isAgg28 Try.sizeOf28 rfl (B276.at.sub 0 5)⟩ rfl rfl ?_)))))
   have D278 := ((hout.keep u220 (fun hb => show ¬ (go = bk34 ∨ w43.heap.size ≤ go) by first | omega | assumption)).keep u275 (fun hb => show ¬ (go = bk7) by first | omega | assumption))
   have D279 := (hlo.keep u275 (fun hb => show ¬ (gx2 = bk7) by first | omega | assumption))
   have hle : lo = (ls.take q).map legV := by
     rw [hlm]
     rcases Nat.lt_or_ge j q with h | h
     · rw [List.take_of_length_le (show ls.length ≤ j by omega), List.take_of_length_le (show ls.length ≤ q by omega)]
     · rw [show j = q by omega]
   have uE := (((Upd.refl (fun i => i = bk34 ∨ w43.heap.size ≤ i ∨ i = bk7) w43).next u220 (fun i hi (h : i = bk34 ∨ w43.heap.size ≤ i) => show i = bk34 ∨ w43.heap.size ≤ i ∨ i = bk7 by omega)).next u275 (fun i hi (h : i = bk7) => show i = bk34 ∨ w43.heap.size ≤ i ∨ i = bk7 by omega))
   obtain ⟨g8, ha8⟩ := Acc.lower (base' := w0.heap.size) D278 (by omega) hpos
   obtain ⟨g9, ha9⟩ := Acc.lower (base' := w0.heap.size) D279 (by omega) hpos
   exact ⟨⟨ao, g8, co, out, ax2, g9, cx2, lo, rfl, ha8, hme, fun h hh => ((hocL h hh).upd uE (fun _ cs hB r9 => r9.elim (hB.ne B216 (by decide)) (fun r9 => r9.elim (fun r9 => by have := hB.lt; omega) (hB.ne B217 (by decide)))) (fun _ cs hB r9 => r9.elim (hB.ne B216 (by decide)) (fun r9 => r9.elim (fun r9 => by have := hB.lt; omega) (hB.ne B217 (by decide))))).low (by omega), ha9, hle⟩, (E225.next u275 (fun i hi h => by omega))⟩
  refine t_skip rfl rfl rfl (t_skip rfl rfl rfl (t_skip rfl rfl rfl (t_pick_f rfl rfl rfl rfl (t_nil' (hK227 _ _ (c_cond_f rfl (c_exit (hK214 _ _ (c_seq fun K280 hK280 => (c_region ?_))))))))))
  have B281 := ((((B26.kx u32).kx u37).keep u44 (show ¬ (bk19 = bk29 ∨ bk34 < bk19) by first | omega | assumption)).keep u220 (show ¬ (bk19 = bk34 ∨ w43.heap.size ≤ bk19) by first | omega | assumption))
  refine t_loadN (vs := [.int .i64 ((smR u).rest), .int .i64 ((smR u).span), .int .i64 ((smR u).work), .int .i64 ((smR u).week), .int .i64 ((smR u).ww)]) Try.isAgg28 Try.sizeOf28 rfl rfl rfl (B281.at.sub 0 5) rfl (t_move rfl rfl rfl (t_move rfl rfl rfl ?_))
  have B282 := (B217.keep u220 (show ¬ (bk7 = bk34 ∨ w43.heap.size ≤ bk7) by first | omega | assumption))
  refine t_st (vs := [.int .i64 ((smR u).rest), .int .i64 ((smR u).span), .int .i64 ((smR u).work), .int .i64 ((smR u).week), .int .i64 ((smR u).ww)]) Try.sizeOf28 rfl rfl rfl B282 rfl rfl rfl rfl (fun w283 sw283 B285 u284 => ?_)
  have zu284 := u284.size
  have B285 : Blk w283 bk7 28 [.int .i64 ((smR u).rest), .int .i64 ((smR u).span), .int .i64 ((smR u).work), .int .i64 ((smR u).week), .int .i64 ((smR u).ww)] := B285
  refine t_assign rfl rfl rfl (t_assign rfl rfl rfl (t_nil' (hK280 _ _ (c_ret (f_ret3 (v1 := .agg #[.int .i64 ((smR u).rest), .int .i64 ((smR u).span), .int .i64 ((smR u).work), .int .i64 ((smR u).week), .int .i64 ((smR u).ww)]) (v2 := .slice ao out.length co) (v3 := .slice ax2 lo.length cx2) Try.results17 ⟨_, _, rfl, run_loadVarN (vs := [.int .i64 ((smR u).rest), .int .i64 ((smR u).span), .int .i64 ((smR u).work), .int .i64 ((smR u).week), .int .i64 ((smR u).ww)]) Try.isAgg28 Try.sizeOf28 rfl (B285.at.sub 0 5)⟩ rfl rfl ?_)))))
  have D287 := ((hout.keep u220 (fun hb => show ¬ (go = bk34 ∨ w43.heap.size ≤ go) by first | omega | assumption)).keep u284 (fun hb => show ¬ (go = bk7) by first | omega | assumption))
  have D288 := (hlo.keep u284 (fun hb => show ¬ (gx2 = bk7) by first | omega | assumption))
  have hle : lo = (ls.take q).map legV := by
    rw [hlm]
    rcases Nat.lt_or_ge j q with h | h
    · rw [List.take_of_length_le (show ls.length ≤ j by omega), List.take_of_length_le (show ls.length ≤ q by omega)]
    · rw [show j = q by omega]
  have uE := (((Upd.refl (fun i => i = bk34 ∨ w43.heap.size ≤ i ∨ i = bk7) w43).next u220 (fun i hi (h : i = bk34 ∨ w43.heap.size ≤ i) => show i = bk34 ∨ w43.heap.size ≤ i ∨ i = bk7 by omega)).next u284 (fun i hi (h : i = bk7) => show i = bk34 ∨ w43.heap.size ≤ i ∨ i = bk7 by omega))
  obtain ⟨g8, ha8⟩ := Acc.lower (base' := w0.heap.size) D287 (by omega) hpos
  obtain ⟨g9, ha9⟩ := Acc.lower (base' := w0.heap.size) D288 (by omega) hpos
  exact ⟨⟨ao, g8, co, out, ax2, g9, cx2, lo, rfl, ha8, hme, fun h hh => ((hocL h hh).upd uE (fun _ cs hB r9 => r9.elim (hB.ne B216 (by decide)) (fun r9 => r9.elim (fun r9 => by have := hB.lt; omega) (hB.ne B217 (by decide)))) (fun _ cs hB r9 => r9.elim (hB.ne B216 (by decide)) (fun r9 => r9.elim (fun r9 => by have := hB.lt; omega) (hB.ne B217 (by decide))))).low (by omega), ha9, hle⟩, (E225.next u284 (fun i hi h => by omega))⟩
 refine t_skip rfl rfl rfl (t_skip rfl rfl rfl (t_skip rfl rfl rfl (t_pick_f rfl rfl rfl rfl (t_nil' (hK52 _ _ (c_cond_f rfl (c_exit (hK39 _ _ (c_seq fun K289 hK289 => (c_seq fun K290 hK290 => (c_region (t_assign rfl rfl rfl (t_nil' (hK290 _ _ (c_block ?_)))))))))))))))
 have B291 := (B36.keep u44 (show ¬ (bk34 = bk29 ∨ bk34 < bk34) by first | omega | assumption))
 have B292 := ((((((B9.kx u16).kx u22).keep u25 (by omega)).kx u32).kx u37).keep u44 (show ¬ (bk7 = bk29 ∨ bk34 < bk7) by first | omega | assumption))
 have hme : out.map HS.slr = (ms.take p).map slV := by
   rw [hom]
   rcases Nat.lt_or_ge k p with q | q
   · rw [List.take_of_length_le (show ms.length ≤ k by omega), List.take_of_length_le (show ms.length ≤ p by omega)]
   · rw [show k = p by omega]
 have hT2 := B291.lt
 have hocL : ∀ h ∈ out, SlrC bk29 w43 h := fun h hh => (hoc h hh).ext (Upd.refl (fun _ => False) _)
 refine c_loop (γ := Nat × Option Addr × Nat × Nat × List Leg) (fun gg => [(2, .int .i64 (q : Int)), (3, .pointer (some ⟨bk2, 0, none⟩)), (6, .pointer (some ⟨bk7, 0, none⟩)), (9, .pointer (some ⟨bk19, 0, none⟩)), (10, .slice ao out.length co), (11, .slice gg.2.1 gg.2.2.2.2.length gg.2.2.2.1), (16, .int .i64 (gg.1 : Int))]) (fun gg w => Upd (fun i => i = bk34 ∨ w43.heap.size ≤ i) w43 w ∧ (gg.1 ≤ ls.length ∧ gg.1 ≤ q) ∧ (Acc encLeg 7 77 bk34 w gg.2.1 gg.2.2.1 gg.2.2.2.1 gg.2.2.2.2) ∧ (gg.2.2.2.2 = (ls.take gg.1).map legV) ∧ (gg.2.2.1 = bk34 ∨ w43.heap.size ≤ gg.2.2.1)) (fun gg => q - gg.1) (0, some ⟨bk34, 0, none⟩, bk34, 0, []) ⟨rfl, rfl, rfl, rfl, rfl, rfl, rfl, trivial⟩ ⟨Upd.refl _ _, (by omega), (Acc.ofRaw (cs := []) B291 (Nat.le_refl _) (Nat.le_refl _) (Nat.zero_le _) (by rfl) (by rfl)), rfl, (.inl rfl)⟩ ?_
 intro gg w294 hW K293 hK293
 obtain ⟨j, ax2, gx2, cx2, lo⟩ := gg
 change WC _ _ _ _ _ _ [(2, .int .i64 (q : Int)), (3, .pointer (some ⟨bk2, 0, none⟩)), (6, .pointer (some ⟨bk7, 0, none⟩)), (9, .pointer (some ⟨bk19, 0, none⟩)), (10, .slice ao out.length co), (11, .slice ax2 lo.length cx2), (16, .int .i64 (j : Int))] _
 change Upd (fun i => i = bk34 ∨ w43.heap.size ≤ i) w43 w294 ∧ (j ≤ ls.length ∧ j ≤ q) ∧ (Acc encLeg 7 77 bk34 w294 ax2 gx2 cx2 lo) ∧ (lo = (ls.take j).map legV) ∧ (gx2 = bk34 ∨ w43.heap.size ≤ gx2) at hW
 obtain ⟨u295, I296, I297, I298, I299⟩ := hW
 have zu295 := u295.size
 have E300 := E50.next u295 (fun i hi (h : i = bk34 ∨ w43.heap.size ≤ i) => show False by first | omega | assumption)
 have hj := I296; clear I296
 have hlo := I297; clear I297
 have hlm := I298; clear I298
 have hgx := I299; clear I299
 have lt_gx2 := hlo.lt
 have hll : lo.length = j := by rw [hlm, List.length_map, List.length_take]; omega
 refine c_seq fun K301 hK301 => (c_seq fun K302 hK302 => (c_region (t_move rfl rfl rfl (t_field Try.underlying61 rfl Try.sizeOf59 (6) rfl rfl rfl rfl ?_))))
 have B303 := (B53.keep u295 (show ¬ (bk2 = bk34 ∨ w43.heap.size ≤ bk2) by first | omega | assumption))
 refine t_load Try.isAgg59 rfl rfl rfl (B303.get rfl) (t_len Try.underlying59 rfl rfl rfl rfl (t_cmp rfl rfl rfl rfl rfl (t_move rfl rfl rfl (t_splitp 104 rfl (fun g104 => ?_) (fun g104 => ?_)))))
 ·
  refine t_move rfl rfl rfl (t_move rfl rfl rfl (t_cmp rfl rfl rfl rfl rfl (t_pick_t rfl rfl rfl rfl (t_nil' (hK302 _ _ (c_condp rfl (fun g108 => ?_) (fun g108 => ?_)))))))
  ·
   have hv9 := hls _ (nth_mem (show j < ls.length by omega))
   unfold okU5 at hv9
   have a1 := Int.emod_nonneg ((nth ls j).d / 2) (show (1 + (nth ls j).d % 2) + 1 ≠ 0 by omega)
   have a2 := Int.emod_lt_of_pos ((nth ls j).d / 2) (show 0 < (1 + (nth ls j).d % 2) + 1 by omega)
   refine c_skip (hK301 _ _ (c_seq fun K304 hK304 => (c_block (c_seq fun K305 hK305 => (c_region (t_field Try.underlying61 rfl Try.sizeOf59 (6) rfl rfl rfl rfl (t_load Try.isAgg59 rfl rfl rfl (B303.get rfl) (t_move rfl rfl rfl ?_))))))))
   have i306 : j < ls.length := (by omega)
   refine t_index (j := j) Try.underlying59 Try.sizeOf22 rfl rfl rfl rfl ((hl9.keep E300 (fun _ h => h)).addr (by omega)) rfl i306 (t_loadN (vs := [.int .u8 ((nth ls j).a), .int .u8 ((nth ls j).b), .int .u8 ((nth ls j).c), .int .u8 ((nth ls j).d), .int .u8 ((nth ls j).e)]) Try.isAgg22 Try.sizeOf22 rfl rfl rfl (((hl9.keep E300 (fun _ h => h)).at_ j (by omega)).sub 0 5) rfl (t_alloc (cs := [.int .u8 0, .int .u8 0, .int .u8 0, .int .u8 0, .int .u8 0]) Try.zeroValue22 rfl rfl rfl (fun bk307 w308 ebk307 sbk307 B309 u310 => ?_)))
   have zu310 := u310.size
   refine t_st (vs := [.int .u8 ((nth ls j).a), .int .u8 ((nth ls j).b), .int .u8 ((nth ls j).c), .int .u8 ((nth ls j).d), .int .u8 ((nth ls j).e)]) Try.sizeOf22 rfl rfl rfl B309 rfl rfl rfl rfl (fun w312 sw312 B314 u313 => ?_)
   have zu313 := u313.size
   have B314 : Blk w312 bk307 22 [.int .u8 ((nth ls j).a), .int .u8 ((nth ls j).b), .int .u8 ((nth ls j).c), .int .u8 ((nth ls j).d), .int .u8 ((nth ls j).e)] := B314
   refine t_nil' (hK305 _ _ (c_seq fun K316 hK316 => (c_region (t_indexArr (j := 1) (1) Try.underlying22 Try.sizeOf5 rfl rfl rfl rfl rfl (by decide) rfl (t_load Try.isAgg5 rfl rfl rfl (B314.get rfl) (t_conv Try.underlying5 Try.underlying3 rfl rfl rfl (IntWalk.i64_in _ (by omega)) (t_ari rfl rfl rfl rfl rfl (by omega) (t_assign rfl rfl rfl (t_nil' (hK316 _ _ (c_seq fun K317 hK317 => (c_region (t_indexArr (j := 0) (0) Try.underlying22 Try.sizeOf5 rfl rfl rfl rfl rfl (by decide) rfl (t_load Try.isAgg5 rfl rfl rfl (B314.get rfl) (t_conv Try.underlying5 Try.underlying3 rfl rfl rfl (IntWalk.i64_in _ (by omega)) (t_rem rfl rfl rfl rfl (by omega) (by omega) (t_move rfl rfl rfl (t_move rfl rfl rfl (t_indexArr (j := 4) (4) Try.underlying22 Try.sizeOf5 rfl rfl rfl rfl rfl (by decide) rfl (t_load Try.isAgg5 rfl rfl rfl (B314.get rfl) (t_conv Try.underlying5 Try.underlying3 rfl rfl rfl (IntWalk.i64_in _ (by omega)) (t_rem rfl rfl rfl rfl (by omega) (by omega) (t_ari rfl rfl rfl rfl rfl (by omega) ?_)))))))))))))))))))))))
   refine t_build (ps := [(0, .int .i64 (2 * ((nth ls j).b))), (1, .int .i64 ((2 * ((nth ls j).b)) + (((nth ls j).e) % 5)))]) (v := .agg #[.int .i64 (2 * ((nth ls j).b)), .int .i64 ((2 * ((nth ls j).b)) + (((nth ls j).e) % 5))]) rfl rfl ⟨rfl, rfl⟩ (fun w => by kernel_rfl) (t_move rfl rfl rfl (t_ari rfl rfl rfl rfl rfl (by omega) (t_indexArr (j := 2) (2) Try.underlying22 Try.sizeOf5 rfl rfl rfl rfl rfl (by decide) rfl (t_load Try.isAgg5 rfl rfl rfl (B314.get rfl) (t_conv Try.underlying5 Try.underlying3 rfl rfl rfl (IntWalk.i64_in _ (by omega)) (t_rem rfl rfl rfl rfl (by omega) (by omega) (t_ari rfl rfl rfl rfl rfl (by omega) (t_move rfl rfl rfl (t_ari rfl rfl rfl rfl rfl (by omega) (t_indexArr (j := 2) (2) Try.underlying22 Try.sizeOf5 rfl rfl rfl rfl rfl (by decide) rfl (t_load Try.isAgg5 rfl rfl rfl (B314.get rfl) (t_conv Try.underlying5 Try.underlying3 rfl rfl rfl (IntWalk.i64_in _ (by omega)) (t_rem rfl rfl rfl rfl (by omega) (by omega) (t_ari rfl rfl rfl rfl rfl (by omega) (t_build (ps := [(0, .int .i64 (((2 * ((nth ls j).b)) + 5) + (((nth ls j).c) % 60))), (1, .int .i64 (((2 * ((nth ls j).b)) + 10) + (((nth ls j).c) % 60)))]) (v := .agg #[.int .i64 (((2 * ((nth ls j).b)) + 5) + (((nth ls j).c) % 60)), .int .i64 (((2 * ((nth ls j).b)) + 10) + (((nth ls j).c) % 60))]) rfl rfl ⟨rfl, rfl⟩ (fun w => by kernel_rfl) (t_build (ps := [(0, .agg #[.int .i64 (2 * ((nth ls j).b)), .int .i64 ((2 * ((nth ls j).b)) + (((nth ls j).e) % 5))]), (1, .agg #[.int .i64 (((2 * ((nth ls j).b)) + 5) + (((nth ls j).c) % 60)), .int .i64 (((2 * ((nth ls j).b)) + 10) + (((nth ls j).c) % 60))])]) (v := .agg #[.int .i64 (2 * ((nth ls j).b)), .int .i64 ((2 * ((nth ls j).b)) + (((nth ls j).e) % 5)), .int .i64 (((2 * ((nth ls j).b)) + 5) + (((nth ls j).c) % 60)), .int .i64 (((2 * ((nth ls j).b)) + 10) + (((nth ls j).c) % 60))]) rfl rfl ⟨rfl, rfl⟩ (fun w => by kernel_rfl) (t_indexArr (j := 3) (3) Try.underlying22 Try.sizeOf5 rfl rfl rfl rfl rfl (by decide) rfl (t_load Try.isAgg5 rfl rfl rfl (B314.get rfl) (t_conv Try.underlying5 Try.underlying3 rfl rfl rfl (IntWalk.i64_in _ (by omega)) (t_rem rfl rfl rfl rfl (by omega) (by omega) (t_ari rfl rfl rfl rfl rfl (by omega) (t_build (ps := [(0, .int .i64 (((nth ls j).a) % 3)), (1, .agg #[.int .i64 (2 * ((nth ls j).b)), .int .i64 ((2 * ((nth ls j).b)) + (((nth ls j).e) % 5)), .int .i64 (((2 * ((nth ls j).b)) + 5) + (((nth ls j).c) % 60)), .int .i64 (((2 * ((nth ls j).b)) + 10) + (((nth ls j).c) % 60))]), (2, .int .i64 (1 + (((nth ls j).d) % 2)))]) (v := .agg #[.int .i64 (((nth ls j).a) % 3), .int .i64 (2 * ((nth ls j).b)), .int .i64 ((2 * ((nth ls j).b)) + (((nth ls j).e) % 5)), .int .i64 (((2 * ((nth ls j).b)) + 5) + (((nth ls j).c) % 60)), .int .i64 (((2 * ((nth ls j).b)) + 10) + (((nth ls j).c) % 60)), .int .i64 (1 + (((nth ls j).d) % 2)), .int .i64 0]) rfl rfl ⟨rfl, rfl⟩ (fun w => by kernel_rfl) (t_alloc (cs := [.int .i64 0, .int .i64 0, .int .i64 0, .int .i64 0, .int .i64 0, .int .i64 0, .int .i64 0]) Try.zeroValue77 rfl rfl rfl (fun bk318 w319 ebk318 sbk318 B320 u321 => ?_))))))))))))))))))))))))
   have zu321 := u321.size
   refine t_st (vs := [.int .i64 (((nth ls j).a) % 3), .int .i64 (2 * ((nth ls j).b)), .int .i64 ((2 * ((nth ls j).b)) + (((nth ls j).e) % 5)), .int .i64 (((2 * ((nth ls j).b)) + 5) + (((nth ls j).c) % 60)), .int .i64 (((2 * ((nth ls j).b)) + 10) + (((nth ls j).c) % 60)), .int .i64 (1 + (((nth ls j).d) % 2)), .int .i64 0]) Try.sizeOf77 rfl rfl rfl B320 rfl rfl rfl rfl (fun w323 sw323 B325 u324 => ?_)
   have zu324 := u324.size
   have B325 : Blk w323 bk318 77 [.int .i64 (((nth ls j).a) % 3), .int .i64 (2 * ((nth ls j).b)), .int .i64 ((2 * ((nth ls j).b)) + (((nth ls j).e) % 5)), .int .i64 (((2 * ((nth ls j).b)) + 5) + (((nth ls j).c) % 60)), .int .i64 (((2 * ((nth ls j).b)) + 10) + (((nth ls j).c) % 60)), .int .i64 (1 + (((nth ls j).d) % 2)), .int .i64 0] := B325
   refine t_nil' (hK317 _ _ (c_seq fun K327 hK327 => (c_region (t_indexArr (j := 3) (3) Try.underlying22 Try.sizeOf5 rfl rfl rfl rfl rfl (by decide) rfl ?_))))
   have B328 := ((B314.kx u321).keep u324 (by omega))
   refine t_load Try.isAgg5 rfl rfl rfl (B328.get rfl) (t_conv Try.underlying5 Try.underlying3 rfl rfl rfl (IntWalk.i64_in _ (by omega)) (t_quo rfl rfl rfl rfl (by omega) (by omega) (t_field Try.underlying77 rfl Try.sizeOf3 (5) rfl rfl rfl rfl (t_load Try.isAgg3 rfl rfl rfl (B325.get rfl) (t_ari rfl rfl rfl rfl rfl (by omega) (t_rem rfl rfl rfl rfl (by omega) (by omega) (t_field Try.underlying77 rfl Try.sizeOf3 (6) rfl rfl rfl rfl (t_st (vs := [.int .i64 ((((nth ls j).d) / 2) % ((1 + (((nth ls j).d) % 2)) + 1))]) Try.sizeOf3 rfl rfl rfl B325 rfl rfl rfl rfl (fun w329 sw329 B331 u330 => ?_)))))))))
   have zu330 := u330.size
   have B331 : Blk w329 bk318 77 [.int .i64 (((nth ls j).a) % 3), .int .i64 (2 * ((nth ls j).b)), .int .i64 ((2 * ((nth ls j).b)) + (((nth ls j).e) % 5)), .int .i64 (((2 * ((nth ls j).b)) + 5) + (((nth ls j).c) % 60)), .int .i64 (((2 * ((nth ls j).b)) + 10) + (((nth ls j).c) % 60)), .int .i64 (1 + (((nth ls j).d) % 2)), .int .i64 ((((nth ls j).d) / 2) % ((1 + (((nth ls j).d) % 2)) + 1))] := B331
   refine t_nil' (hK327 _ _ (c_region (t_move rfl rfl rfl (t_loadN (vs := [.int .i64 (((nth ls j).a) % 3), .int .i64 (2 * ((nth ls j).b)), .int .i64 ((2 * ((nth ls j).b)) + (((nth ls j).e) % 5)), .int .i64 (((2 * ((nth ls j).b)) + 5) + (((nth ls j).c) % 60)), .int .i64 (((2 * ((nth ls j).b)) + 10) + (((nth ls j).c) % 60)), .int .i64 (1 + (((nth ls j).d) % 2)), .int .i64 ((((nth ls j).d) / 2) % ((1 + (((nth ls j).d) % 2)) + 1))]) Try.isAgg77 Try.sizeOf77 rfl rfl rfl (B331.at.sub 0 7) rfl (t_bslice (ps := [(0, .agg #[.int .i64 (((nth ls j).a) % 3), .int .i64 (2 * ((nth ls j).b)), .int .i64 ((2 * ((nth ls j).b)) + (((nth ls j).e) % 5)), .int .i64 (((2 * ((nth ls j).b)) + 5) + (((nth ls j).c) % 60)), .int .i64 (((2 * ((nth ls j).b)) + 10) + (((nth ls j).c) % 60)), .int .i64 (1 + (((nth ls j).d) % 2)), .int .i64 ((((nth ls j).d) / 2) % ((1 + (((nth ls j).d) % 2)) + 1))])]) (cs := [.int .i64 (((nth ls j).a) % 3), .int .i64 (2 * ((nth ls j).b)), .int .i64 ((2 * ((nth ls j).b)) + (((nth ls j).e) % 5)), .int .i64 (((2 * ((nth ls j).b)) + 5) + (((nth ls j).c) % 60)), .int .i64 (((2 * ((nth ls j).b)) + 10) + (((nth ls j).c) % 60)), .int .i64 (1 + (((nth ls j).d) % 2)), .int .i64 ((((nth ls j).d) / 2) % ((1 + (((nth ls j).d) % 2)) + 1))]) (e := 77) rfl rfl ⟨rfl, rfl⟩ (fun w => by kernel_rfl) (fun bk333 w334 ebk333 sbk333 B335 u336 => ?_))))))
   have zu336 := u336.size
   have D338 := ((((((hlo.keep u310 (fun _ h => h)).keep u313 (fun hb => show ¬ (gx2 = bk307) by first | omega | assumption)).keep u321 (fun _ h => h)).keep u324 (fun hb => show ¬ (gx2 = bk318) by first | omega | assumption)).keep u330 (fun hb => show ¬ (gx2 = bk318) by first | omega | assumption)).keep u336 (fun _ h => h))
   refine t_append (z := .agg #[.int .i64 0, .int .i64 0, .int .i64 0, .int .i64 0, .int .i64 0, .int .i64 0, .int .i64 0]) (bytes := 56) (k := 7) (base := bk34) (legV (nth ls j)) Try.underlying63 (by kernel_rfl) rfl (by decide) (fun _ => rfl) (by intro x; simp [encLeg, Value.oneCell']) rfl rfl rfl rfl D338 B335 (by omega) (by omega) (by decide) (fun ao339 gb340 cp341 w342 A343 u344 gegb340 lngb340 => ?_)
   have zu344 := u344.size
   have lt_gb340 := A343.lt
   refine t_assign rfl rfl rfl (t_nil' (hK304 _ _ (c_region (t_move rfl rfl rfl (t_ari rfl rfl rfl rfl rfl (by omega) (t_assign rfl rfl rfl (t_nil' ?_)))))))
   exact hK293 (j + 1, ao339, gb340, cp341, (lo ++ [(legV (nth ls j))])) _ _ (by show q - (j + 1) < q - j; omega) ⟨rfl, rfl, rfl, rfl, rfl, rfl, rfl, trivial⟩ ⟨(((((((u295.next u310 (fun _ _ h => h.elim)).next u313 (fun i hi (h : i = bk307) => show i = bk34 ∨ w43.heap.size ≤ i by first | omega | assumption)).next u321 (fun _ _ h => h.elim)).next u324 (fun i hi (h : i = bk318) => show i = bk34 ∨ w43.heap.size ≤ i by first | omega | assumption)).next u330 (fun i hi (h : i = bk318) => show i = bk34 ∨ w43.heap.size ≤ i by first | omega | assumption)).next u336 (fun _ _ h => h.elim)).next u344 (fun i hi (h : (i = gx2 ∧ bk34 ≤ i)) => show i = bk34 ∨ w43.heap.size ≤ i by first | omega | assumption)), (by omega), A343, (by rw [hlm, take_nth (by omega), List.map_append]; rfl), (by show gb340 = bk34 ∨ w43.heap.size ≤ gb340; omega)⟩
  refine c_exit (hK289 _ _ (c_seq fun K346 hK346 => (c_region ?_)))
  have B347 := ((((B26.kx u32).kx u37).keep u44 (show ¬ (bk19 = bk29 ∨ bk34 < bk19) by first | omega | assumption)).keep u295 (show ¬ (bk19 = bk34 ∨ w43.heap.size ≤ bk19) by first | omega | assumption))
  refine t_loadN (vs := [.int .i64 ((smR u).rest), .int .i64 ((smR u).span), .int .i64 ((smR u).work), .int .i64 ((smR u).week), .int .i64 ((smR u).ww)]) Try.isAgg28 Try.sizeOf28 rfl rfl rfl (B347.at.sub 0 5) rfl (t_move rfl rfl rfl (t_move rfl rfl rfl ?_))
  have B348 := (B292.keep u295 (show ¬ (bk7 = bk34 ∨ w43.heap.size ≤ bk7) by first | omega | assumption))
  refine t_st (vs := [.int .i64 ((smR u).rest), .int .i64 ((smR u).span), .int .i64 ((smR u).work), .int .i64 ((smR u).week), .int .i64 ((smR u).ww)]) Try.sizeOf28 rfl rfl rfl B348 rfl rfl rfl rfl (fun w349 sw349 B351 u350 => ?_)
  have zu350 := u350.size
  have B351 : Blk w349 bk7 28 [.int .i64 ((smR u).rest), .int .i64 ((smR u).span), .int .i64 ((smR u).work), .int .i64 ((smR u).week), .int .i64 ((smR u).ww)] := B351
  refine t_assign rfl rfl rfl (t_assign rfl rfl rfl (t_nil' (hK346 _ _ (c_ret (f_ret3 (v1 := .agg #[.int .i64 ((smR u).rest), .int .i64 ((smR u).span), .int .i64 ((smR u).work), .int .i64 ((smR u).week), .int .i64 ((smR u).ww)]) (v2 := .slice ao out.length co) (v3 := .slice ax2 lo.length cx2) Try.results17 ⟨_, _, rfl, run_loadVarN (vs := [.int .i64 ((smR u).rest), .int .i64 ((smR u).span), .int .i64 ((smR u).work), .int .i64 ((smR u).week), .int .i64 ((smR u).ww)]) Try.isAgg28 Try.sizeOf28 rfl (B351.at.sub 0 5)⟩ rfl rfl ?_)))))
  have D353 := ((hout.keep u295 (fun hb => show ¬ (go = bk34 ∨ w43.heap.size ≤ go) by first | omega | assumption)).keep u350 (fun hb => show ¬ (go = bk7) by first | omega | assumption))
  have D354 := (hlo.keep u350 (fun hb => show ¬ (gx2 = bk7) by first | omega | assumption))
  have hle : lo = (ls.take q).map legV := by
    rw [hlm]
    rcases Nat.lt_or_ge j q with h | h
    · rw [List.take_of_length_le (show ls.length ≤ j by omega), List.take_of_length_le (show ls.length ≤ q by omega)]
    · rw [show j = q by omega]
  have uE := (((Upd.refl (fun i => i = bk34 ∨ w43.heap.size ≤ i ∨ i = bk7) w43).next u295 (fun i hi (h : i = bk34 ∨ w43.heap.size ≤ i) => show i = bk34 ∨ w43.heap.size ≤ i ∨ i = bk7 by omega)).next u350 (fun i hi (h : i = bk7) => show i = bk34 ∨ w43.heap.size ≤ i ∨ i = bk7 by omega))
  obtain ⟨g8, ha8⟩ := Acc.lower (base' := w0.heap.size) D353 (by omega) hpos
  obtain ⟨g9, ha9⟩ := Acc.lower (base' := w0.heap.size) D354 (by omega) hpos
  exact ⟨⟨ao, g8, co, out, ax2, g9, cx2, lo, rfl, ha8, hme, fun h hh => ((hocL h hh).upd uE (fun _ cs hB r9 => r9.elim (hB.ne B291 (by decide)) (fun r9 => r9.elim (fun r9 => by have := hB.lt; omega) (hB.ne B292 (by decide)))) (fun _ cs hB r9 => r9.elim (hB.ne B291 (by decide)) (fun r9 => r9.elim (fun r9 => by have := hB.lt; omega) (hB.ne B292 (by decide))))).low (by omega), ha9, hle⟩, (E300.next u350 (fun i hi h => by omega))⟩
 refine t_skip rfl rfl rfl (t_skip rfl rfl rfl (t_skip rfl rfl rfl (t_pick_f rfl rfl rfl rfl (t_nil' (hK302 _ _ (c_cond_f rfl (c_exit (hK289 _ _ (c_seq fun K355 hK355 => (c_region ?_))))))))))
 have B356 := ((((B26.kx u32).kx u37).keep u44 (show ¬ (bk19 = bk29 ∨ bk34 < bk19) by first | omega | assumption)).keep u295 (show ¬ (bk19 = bk34 ∨ w43.heap.size ≤ bk19) by first | omega | assumption))
 refine t_loadN (vs := [.int .i64 ((smR u).rest), .int .i64 ((smR u).span), .int .i64 ((smR u).work), .int .i64 ((smR u).week), .int .i64 ((smR u).ww)]) Try.isAgg28 Try.sizeOf28 rfl rfl rfl (B356.at.sub 0 5) rfl (t_move rfl rfl rfl (t_move rfl rfl rfl ?_))
 have B357 := (B292.keep u295 (show ¬ (bk7 = bk34 ∨ w43.heap.size ≤ bk7) by first | omega | assumption))
 refine t_st (vs := [.int .i64 ((smR u).rest), .int .i64 ((smR u).span), .int .i64 ((smR u).work), .int .i64 ((smR u).week), .int .i64 ((smR u).ww)]) Try.sizeOf28 rfl rfl rfl B357 rfl rfl rfl rfl (fun w358 sw358 B360 u359 => ?_)
 have zu359 := u359.size
 have B360 : Blk w358 bk7 28 [.int .i64 ((smR u).rest), .int .i64 ((smR u).span), .int .i64 ((smR u).work), .int .i64 ((smR u).week), .int .i64 ((smR u).ww)] := B360
 refine t_assign rfl rfl rfl (t_assign rfl rfl rfl (t_nil' (hK355 _ _ (c_ret (f_ret3 (v1 := .agg #[.int .i64 ((smR u).rest), .int .i64 ((smR u).span), .int .i64 ((smR u).work), .int .i64 ((smR u).week), .int .i64 ((smR u).ww)]) (v2 := .slice ao out.length co) (v3 := .slice ax2 lo.length cx2) Try.results17 ⟨_, _, rfl, run_loadVarN (vs := [.int .i64 ((smR u).rest), .int .i64 ((smR u).span), .int .i64 ((smR u).work), .int .i64 ((smR u).week), .int .i64 ((smR u).ww)]) Try.isAgg28 Try.sizeOf28 rfl (B360.at.sub 0 5)⟩ rfl rfl ?_)))))
 have D362 := ((hout.keep u295 (fun hb => show ¬ (go = bk34 ∨ w43.heap.size ≤ go) by first | omega | assumption)).keep u359 (fun hb => show ¬ (go = bk7) by first | omega | assumption))
 have D363 := (hlo.keep u359 (fun hb => show ¬ (gx2 = bk7) by first | omega | assumption))
 have hle : lo = (ls.take q).map legV := by
   rw [hlm]
   rcases Nat.lt_or_ge j q with h | h
   · rw [List.take_of_length_le (show ls.length ≤ j by omega), List.take_of_length_le (show ls.length ≤ q by omega)]
   · rw [show j = q by omega]
 have uE := (((Upd.refl (fun i => i = bk34 ∨ w43.heap.size ≤ i ∨ i = bk7) w43).next u295 (fun i hi (h : i = bk34 ∨ w43.heap.size ≤ i) => show i = bk34 ∨ w43.heap.size ≤ i ∨ i = bk7 by omega)).next u359 (fun i hi (h : i = bk7) => show i = bk34 ∨ w43.heap.size ≤ i ∨ i = bk7 by omega))
 obtain ⟨g8, ha8⟩ := Acc.lower (base' := w0.heap.size) D362 (by omega) hpos
 obtain ⟨g9, ha9⟩ := Acc.lower (base' := w0.heap.size) D363 (by omega) hpos
 exact ⟨⟨ao, g8, co, out, ax2, g9, cx2, lo, rfl, ha8, hme, fun h hh => ((hocL h hh).upd uE (fun _ cs hB r9 => r9.elim (hB.ne B291 (by decide)) (fun r9 => r9.elim (fun r9 => by have := hB.lt; omega) (hB.ne B292 (by decide)))) (fun _ cs hB r9 => r9.elim (hB.ne B291 (by decide)) (fun r9 => r9.elim (fun r9 => by have := hB.lt; omega) (hB.ne B292 (by decide))))).low (by omega), ha9, hle⟩, (E300.next u359 (fun i hi h => by omega))⟩

end Go.Proofs.Ytagmodjadmecdaa
