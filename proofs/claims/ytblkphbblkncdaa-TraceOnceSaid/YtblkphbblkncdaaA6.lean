/-
  The contract of Losses. Conditions: none.
-/
import Derived.Test.YtblkphbblkncdaaA5
import Derived.Test.YtblkphbblkncdaaMkn
import Derived.Test.YtblkphbblkncdaaMc
namespace Go.Proofs.Ytblkphbblkncdaa
open Go Go.RowKit

theorem LosR.len0 {sp : List Span} {n : Nat} (h : SpOk sp n) {k : Nat} (hk : k < sp.length) : (begS sp k).toNat + ((nth sp k).en - begS sp k).toNat ≤ n ∧ ((begS sp k).toNat : Int) = begS sp k ∧ (((begS sp k).toNat + ((nth sp k).en - begS sp k).toNat : Nat) : Int) = (nth sp k).en := by
  have := h.up k hk
  omega
theorem own28 : Own Try.prog 28 := ⟨Try.f28, Try.func28, by kernel_rfl, by kernel_rfl⟩

theorem Backward_c (ao : Option Addr) (n cap : Nat) (w0 : World) :
    CallsV Try.prog 63 [.slice ao n cap] w0 (fun v w' => (∃ bx, v = .func (.func 82) #[] #[.pointer (some ⟨bx, 0, none⟩)] ∧ w0.heap.size ≤ bx ∧ Blk w' bx 145 [.slice ao n cap]) ∧ Ext w0 w') := by
 refine f_enter (N := 4) Try.func63 rfl rfl rfl (c_seq fun K1 hK1 => (c_region (t_box (cs := [.slice ao n cap]) rfl rfl rfl rfl (fun bk2 w3 ebk2 sbk2 B4 u5 => ?_))))
 have zu5 := u5.size
 refine t_assign rfl rfl rfl (t_nil' (hK1 _ _ (c_seq fun K7 hK7 => (c_region (t_mkfunc (vs := []) (us := [.pointer (some ⟨bk2, 0, none⟩)]) rfl rfl rfl rfl (t_assign rfl rfl rfl (t_nil' (hK7 _ _ (c_ret (f_ret1 (v := .func (.func 82) #[] #[.pointer (some ⟨bk2, 0, none⟩)]) Try.results63 rfl ?_))))))))))
 exact ⟨⟨_, rfl, by omega, B4⟩, ((Upd.refl (fun _ => False) w0).nx u5)⟩


/-- What the loop backwards over the spans has written, from the k-th on. -/
def LosC (sp : List Span) (n bm gL : Nat) (wR : World) (k : Nat) (W : World) : Prop := Upd (fun i => i = bm ∨ i = gL ∨ i = wR.heap.size + 1) wR W ∧ ∃ M : List Bd, Blk W bm 3 [.int .i64 (mostF (sp.drop k))] ∧ Acc encBd 2 77 gL W (some ⟨gL, 0, none⟩) gL n M ∧ M.length = n ∧ LosR sp k M
theorem LosC.ext {sp : List Span} {n bm gL : Nat} {wR : World} (k : Nat) (W W' : World) (h : LosC sp n bm gL wR k W) (u : Ext W W') : LosC sp n bm gL wR k W' := by
  obtain ⟨h0, M, h1, h2, h3⟩ := h
  exact ⟨h0.next u (fun _ _ h => h.elim), M, h1.keep u id, h2.keep u (fun _ h => h), h3⟩
theorem LosC.turned {sp : List Span} {n bm gL : Nat} {wR : World} (hg : gL < wR.heap.size) (k : Nat) (W W' : World) (h : LosC sp n bm gL wR k W) (hl : ∃ r, W.heap[wR.heap.size + 1]? = some (.loop r)) (u : Upd (· = wR.heap.size + 1) W W') : LosC sp n bm gL wR k W' := by
  obtain ⟨h0, M, h1, h2, h3⟩ := h
  exact ⟨h0.trans (u.mono fun i e => .inr (.inr e)), M, h1.keep u (h1.notLoop hl), h2.keep u (fun _ e => by omega), h3⟩
def LosY (sp : List Span) (n bm gL : Nat) (wR : World) (x : BkE) (d : Nat) (W : World) : Prop := (x.i < sp.length ∧ LosC sp n bm gL wR (x.i + 1) W ∧ Upd (fun _ => True) x.w W) ∧ Blk W d 144 (encSpan (nth sp x.i)) ∧ wR.heap.size + 1 < d
theorem LosY.turned {sp : List Span} {n bm gL : Nat} {wR : World} (hg : gL < wR.heap.size) (d : Nat) : Turned (wR.heap.size + 1) (fun x W => LosY sp n bm gL wR x d W) := fun x W W' h hl u =>
  ⟨⟨h.1.1, LosC.turned hg _ _ _ h.1.2.1 hl u, h.1.2.2.trans (u.mono fun _ _ => trivial)⟩, h.2.1.keep u (h.2.1.notLoop hl), h.2.2⟩

theorem Acc.cell {α : Type} {enc : α → List Value} {k : Nat} {e : TypeId} {base : Nat} {w : World} {g cap g' : Nat} {xs : List α} (h : Acc enc k e base w (some ⟨g, 0, none⟩) g' cap xs) : g = g' ∧ ∃ cur : Array Value, w.heap[g']? = some (.cells cur e (0, 0)) := by
  rcases h.at_ with ⟨h1, _⟩ | ⟨h1, _, cur, h3, _⟩
  · cases h1
  · simp at h1; exact ⟨h1, cur, h3⟩

/-- What Losses returns. -/
def LosPost (us : List Sur) (v : Value) (w' : World) : Prop :=
  (100 < us.length ∧ v = .tuple #[.slice none 0 0, .int .i64 0, .int .i64 5]) ∨ (us.length ≤ 100 ∧ (us.any fun x => !okSur x) = true ∧ v = .tuple #[.slice none 0 0, .int .i64 0, .int .i64 2]) ∨
  (us.length ≤ 100 ∧ (us.any fun x => !okSur x) = false ∧ ((∃ i : Nat, (runS us 0 [⟨0, 0, 0⟩]) = ([], (i : Int)) ∧ v = .tuple #[.slice none 0 0, .int .i64 (i : Int), .int .i64 9]) ∨
    ((runS us 0 [⟨0, 0, 0⟩]).2 = -1 ∧ ∃ g M, v = .tuple #[.slice (some ⟨g, 0, none⟩) us.length us.length, .int .i64 0, .int .i64 0] ∧ Sl encBd 2 w' (some ⟨g, 0, none⟩) g 0 M ∧ M.length = us.length ∧ LosR (runS us 0 [⟨0, 0, 0⟩]).1 0 M)))

set_option maxHeartbeats 4000000 in
theorem Losses_c (us : List Sur) (ao : Option Addr) (b o cap : Nat) (w0 : World) (hl : Sl encSur 4 w0 ao b o us) (hll : us.length ≤ 1000000) :
    CallsV Try.prog 28 [.slice ao us.length cap] w0 (fun v w' => LosPost us v w' ∧ Ext w0 w') := by
 refine f_enterM (N := 109) Try.func28 rfl rfl rfl (c_seq fun K1 hK1 => (c_region (t_alloc (cs := [.slice none 0 0]) Try.zeroValue73 rfl rfl rfl (fun bk2 w3 ebk2 sbk2 B4 u5 => ?_))))
 have zu5 := u5.size
 have E6 := (Upd.refl (fun _ => False) w0).nx u5
 refine t_assign rfl rfl rfl (t_assign rfl rfl rfl (t_nil' (hK1 _ _ (c_seq fun K7 hK7 => (c_block (c_seq fun K8 hK8 => (c_region (t_move rfl rfl rfl (t_len Try.underlying72 rfl rfl rfl rfl (t_cmp rfl rfl rfl rfl rfl (t_assign rfl rfl rfl (t_nil' (hK8 _ _ (c_condp rfl (fun g14 => ?_) (fun g14 => ?_)))))))))))))))
 ·
  refine c_seq fun K9 hK9 => (c_region (t_st (vs := [.slice none 0 0]) Try.sizeOf73 rfl rfl rfl B4 rfl rfl rfl rfl (fun w10 sw10 B12 u11 => ?_)))
  have zu11 := u11.size
  have B12 : Blk w10 bk2 73 [.slice none 0 0] := B12
  refine t_assign rfl rfl rfl (t_assign rfl rfl rfl (t_nil' (hK9 _ _ (c_ret ?_))))
  have hmkE := (show Marks w0.heap.size [] w10 from trivial)
  refine f_retMc3 (v1 := .slice none 0 0) (v2 := .int .i64 0) (v3 := .int .i64 5) Try.results28 (.cell (show Marks w0.heap.size [] w10 from trivial) rfl Try.isAgg73 B12 rfl) (.tmp rfl) (.tmp rfl) (show Marks w0.heap.size [] w10 from trivial) (fun w14 u15 omw14 => ?_)
  have zu15 := u15.size
  exact ⟨.inl ⟨by omega, rfl⟩, ((E6.next u11 (fun i hi h => by omega)).next u15 (fun i hi (h : w0.heap.size ≤ i) => show False by first | omega | assumption))⟩
 refine c_seq fun K17 hK17 => (c_region (t_move rfl rfl rfl (t_call own59 rfl rfl rfl rfl (containsS_c encSur (fun _ => rfl) (fun x => !okSur x) 60 [] us ao b o cap _ own60 (fun x _ w _ => badSur_c x w) (hl.keep E6 (fun _ h => h)) hll) (fun v18 w19 r21 => ?_))))
 obtain ⟨rfl, u20⟩ := r21
 have zu20 := u20.size
 have E22 := E6.nx u20
 refine t_assign rfl rfl rfl (t_nil' (hK17 _ _ (c_cond rfl (fun g18 => ?_) (fun g18 => ?_))))
 ·
  refine c_seq fun K23 hK23 => (c_region ?_)
  have B24 := (B4.kx u20)
  refine t_st (vs := [.slice none 0 0]) Try.sizeOf73 rfl rfl rfl B24 rfl rfl rfl rfl (fun w25 sw25 B27 u26 => ?_)
  have zu26 := u26.size
  have B27 : Blk w25 bk2 73 [.slice none 0 0] := B27
  refine t_assign rfl rfl rfl (t_assign rfl rfl rfl (t_nil' (hK23 _ _ (c_ret ?_))))
  have hmkE := (show Marks w0.heap.size [] w25 from trivial)
  refine f_retMc3 (v1 := .slice none 0 0) (v2 := .int .i64 0) (v3 := .int .i64 2) Try.results28 (.cell (show Marks w0.heap.size [] w25 from trivial) rfl Try.isAgg73 B27 rfl) (.tmp rfl) (.tmp rfl) (show Marks w0.heap.size [] w25 from trivial) (fun w29 u30 omw29 => ?_)
  have zu30 := u30.size
  exact ⟨.inr (.inl ⟨by omega, g18, rfl⟩), ((E22.next u26 (fun i hi h => by omega)).next u30 (fun i hi (h : w0.heap.size ≤ i) => show False by first | omega | assumption))⟩
 have hval : ∀ x ∈ us, okSur x = true := fun x hx => by have := List.any_eq_false.1 g18 x hx; simpa using this
 refine c_skip (hK7 _ _ (c_seq fun K32 hK32 => (c_region (t_build (ps := []) (v := .agg #[.int .i64 0, .int .i64 0, .int .i64 0]) rfl rfl ⟨rfl, rfl⟩ (fun w => by kernel_rfl) (t_bslice (ps := [(0, .agg #[.int .i64 0, .int .i64 0, .int .i64 0])]) (cs := [.int .i64 0, .int .i64 0, .int .i64 0]) (e := 144) rfl rfl ⟨rfl, rfl⟩ (fun w => by kernel_rfl) (fun bk33 w34 ebk33 sbk33 B35 u36 => ?_))))))
 have zu36 := u36.size
 refine t_alloc (cs := [.slice none 0 0]) Try.zeroValue145 rfl rfl rfl (fun bk38 w39 ebk38 sbk38 B40 u41 => ?_)
 have zu41 := u41.size
 refine t_st (vs := [.slice (some ⟨bk33, 0, none⟩) 1 1]) Try.sizeOf145 rfl rfl rfl B40 rfl rfl rfl rfl (fun w43 sw43 B45 u44 => ?_)
 have zu44 := u44.size
 have B45 : Blk w43 bk38 145 [.slice (some ⟨bk33, 0, none⟩) 1 1] := B45
 refine t_nil' (hK32 _ _ (c_seq fun K47 hK47 => (c_seq fun K48 hK48 => (c_region (t_move rfl rfl rfl (t_len Try.underlying72 rfl rfl rfl rfl (t_move rfl rfl rfl (t_nil' (hK48 _ _ (c_block ?_))))))))))
 have B49 := ((B35.kx u41).keep u44 (by omega))
 have hac0 : Acc encSpan 3 144 bk33 w43 (some ⟨bk33, 0, none⟩) bk33 1 [⟨0, 0, 0⟩] := Acc.ofBlk (xs := [(⟨0, 0, 0⟩ : Span)]) encSpan 3 (fun _ => rfl) B49 (Nat.le_refl _) (by decide)
 have hlS := B49.lt
 refine c_loop (γ := Nat × Option Addr × Nat × Nat × List Span) (fun gg => [(0, .slice ao us.length cap), (2, .pointer (some ⟨bk2, 0, none⟩)), (5, .pointer (some ⟨bk38, 0, none⟩)), (23, .slice ao us.length cap), (24, .int .i64 (us.length : Int)), (25, .int .i64 (gg.1 : Int))]) (fun gg w => Upd (fun i => i = bk38 ∨ i = bk33) w43 w ∧ Blk w bk38 145 [.slice gg.2.1 gg.2.2.2.2.length gg.2.2.2.1] ∧ (gg.1 ≤ us.length) ∧ (SpOk gg.2.2.2.2 gg.1) ∧ (runS us 0 [⟨0, 0, 0⟩] = runS (us.drop gg.1) gg.1 gg.2.2.2.2) ∧ (Acc encSpan 3 144 bk33 w gg.2.1 gg.2.2.1 gg.2.2.2.1 gg.2.2.2.2) ∧ (gg.2.2.1 = bk33 ∨ w43.heap.size ≤ gg.2.2.1)) (fun gg => us.length - gg.1) (0, some ⟨bk33, 0, none⟩, bk33, 1, [⟨0, 0, 0⟩]) ⟨rfl, rfl, rfl, rfl, rfl, rfl, trivial⟩ ⟨Upd.refl _ _, B45, (Nat.zero_le _), SpOk.first, rfl, hac0, (.inl rfl)⟩ ?_
 intro gg w51 hW K50 hK50
 obtain ⟨k, ao2, g2, c2, sp⟩ := gg
 change WC _ _ _ _ _ _ [(0, .slice ao us.length cap), (2, .pointer (some ⟨bk2, 0, none⟩)), (5, .pointer (some ⟨bk38, 0, none⟩)), (23, .slice ao us.length cap), (24, .int .i64 (us.length : Int)), (25, .int .i64 (k : Int))] _
 change Upd (fun i => i = bk38 ∨ i = bk33) w43 w51 ∧ Blk w51 bk38 145 [.slice ao2 sp.length c2] ∧ (k ≤ us.length) ∧ (SpOk sp k) ∧ (runS us 0 [⟨0, 0, 0⟩] = runS (us.drop k) k sp) ∧ (Acc encSpan 3 144 bk33 w51 ao2 g2 c2 sp) ∧ (g2 = bk33 ∨ w43.heap.size ≤ g2) at hW
 obtain ⟨u52, I53, I54, I55, I56, I57, I58⟩ := hW
 have zu52 := u52.size
 have E59 := (((E22.nx u36).nx u41).next u44 (fun i hi h => by omega)).next u52 (fun i hi h => by omega)
 have hk := I54; clear I54
 have hok := I55; clear I55
 have hrun := I56; clear I56
 have hacc := I57; clear I57
 have hg2 := I58; clear I58
 have lt_g2 := hacc.lt
 have hsp1 := hok.pos
 have hsp2 := hok.len
 refine c_seq fun K60 hK60 => (c_region (t_cmp rfl rfl rfl rfl rfl (t_nil' (hK60 _ _ (c_seq fun K61 hK61 => (c_condp rfl (fun g26 => ?_) (fun g26 => ?_)))))))
 ·
  have hxv := hval _ (nth_mem (xs := us) (i := k) (by omega))
  have hxr : ((0 ≤ (nth us k).book ∧ (nth us k).book ≤ 1000000) ∧ (0 ≤ (nth us k).lo ∧ (nth us k).lo ≤ 1000000) ∧ (0 ≤ (nth us k).hi ∧ (nth us k).hi ≤ 1000000)) := by simp only [okSur, decide_eq_true_eq] at hxv; exact hxv.1
  refine c_skip (hK61 _ _ (c_seq fun K62 hK62 => (c_block (c_seq fun K63 hK63 => (c_region (t_move rfl rfl rfl ?_))))))
  have i64 : k < us.length := (by omega)
  refine t_index (j := k) Try.underlying72 Try.sizeOf79 rfl rfl rfl rfl ((hl.keep E59 (fun _ h => h)).addr (by omega)) rfl i64 (t_loadN (vs := [.int .i64 ((nth us k).book), .int .i64 ((nth us k).lo), .int .i64 ((nth us k).hi), .bool ((nth us k).sealed)]) Try.isAgg79 Try.sizeOf79 rfl rfl rfl (((hl.keep E59 (fun _ h => h)).at_ k (by omega)).sub 0 4) rfl (t_alloc (cs := [.int .i64 0, .int .i64 0, .int .i64 0, .bool false]) Try.zeroValue79 rfl rfl rfl (fun bk65 w66 ebk65 sbk65 B67 u68 => ?_)))
  have zu68 := u68.size
  refine t_assign rfl rfl rfl (t_st (vs := [.int .i64 ((nth us k).book), .int .i64 ((nth us k).lo), .int .i64 ((nth us k).hi), .bool ((nth us k).sealed)]) Try.sizeOf79 rfl rfl rfl B67 rfl rfl rfl rfl (fun w70 sw70 B72 u71 => ?_))
  have zu71 := u71.size
  have B72 : Blk w70 bk65 79 [.int .i64 ((nth us k).book), .int .i64 ((nth us k).lo), .int .i64 ((nth us k).hi), .bool ((nth us k).sealed)] := B72
  refine t_nil' (hK63 _ _ (c_cut (γ := Option Addr × Nat × Nat × List Span) (fun gg => [(0, .slice ao us.length cap), (2, .pointer (some ⟨bk2, 0, none⟩)), (5, .pointer (some ⟨bk38, 0, none⟩)), (6, .int .i64 (k : Int)), (7, .pointer (some ⟨bk65, 0, none⟩)), (23, .slice ao us.length cap), (24, .int .i64 (us.length : Int)), (25, .int .i64 (k : Int))]) (fun gg w => Upd (fun i => i = bk38 ∨ (i = g2 ∧ bk33 ≤ i)) w70 w ∧ Blk w bk38 145 [.slice gg.1 gg.2.2.2.length gg.2.2.1] ∧ (gg.2.2.2 = openS sp k (nth us k)) ∧ (Acc encSpan 3 144 bk33 w gg.1 gg.2.1 gg.2.2.1 gg.2.2.2) ∧ (gg.2.1 = bk33 ∨ w43.heap.size ≤ gg.2.1)) (fun K75 hK75 => ?_) ?_))
  ·
   refine c_seq fun K78 hK78 => (c_region (t_field Try.underlying79 rfl Try.sizeOf4 (3) rfl rfl rfl rfl (t_load Try.isAgg4 rfl rfl rfl (B72.get rfl) (t_not rfl rfl rfl (t_nil' (hK78 _ _ (c_cond rfl (fun g32 => ?_) (fun g32 => ?_))))))))
   ·
    have B79 := ((I53.kx u68).keep u71 (by omega))
    refine c_drawnS follows 15 13 [some (33, some (.slice ao2 sp.length c2)), some (34, some (.slice ao2 sp.length c2)), some (35, some (.slice ao2 sp.length c2)), some (36, some (.int .i64 (sp.length : Int))), some (37, some (.int .i64 ((sp.length : Int) - 1))), some (38, some (.pointer (some ⟨g2, 0 + (sp.length - 1) * 3, none⟩))), some (39, some (.pointer (some ⟨g2, 0 + (sp.length - 1) * 3 + 0, none⟩))), some (40, some (.pointer (some ⟨g2, 0 + (sp.length - 1) * 3 + 0 + 0, none⟩))), some (41, some (.int .i64 ((nth sp (sp.length - 1)).lo))), some (42, some (.agg #[.int .i64 ((nth sp (sp.length - 1)).lo), .int .i64 1000000])), some (43, some (.int .i64 (k : Int))), some (44, some (.agg #[.int .i64 ((nth sp (sp.length - 1)).lo), .int .i64 1000000, .int .i64 (k : Int)])), some (45, none)] [[],[],[],[2],[3],[1,4],[5],[6],[7],[8],[],[9,10],[11],[0,12],[13,13,0,1,2,3,4,5,6,7,8,9,10,11,12,13]] (fun D ρ w => Upd (fun _ => False) w70 w ∧ (D 12 = true → ∃ bk82, ρ 12 = .slice (some ⟨bk82, 0, none⟩) 1 1 ∧ w70.heap.size ≤ bk82 ∧ Blk w bk82 144 [.int .i64 ((nth sp (sp.length - 1)).lo), .int .i64 1000000, .int .i64 (k : Int)])) rfl rfl rfl rfl (by kernel_rfl) (by kernel_rfl) (by kernel_rfl) ⟨(Upd.drew _).to, (fun h => by cases h)⟩ ⟨?_, ?_, ?_, ?_, ?_, ?_, ?_, ?_, ?_, ?_, ?_, ?_, ?_, trivial⟩ ?_
    · exact fun D ρ w87 hcD hnD hdD hW => ⟨_, kf_fr [5], fun Lr => t_load Try.isAgg145 rfl rfl rfl ((B79.kx hW.1).get rfl) (dz rfl hW)⟩
    · exact fun D ρ w92 hcD hnD hdD hW => ⟨_, kf_fr [5], fun Lr => t_load Try.isAgg145 rfl rfl rfl ((B79.kx hW.1).get rfl) (dz rfl hW)⟩
    · exact fun D ρ w97 hcD hnD hdD hW => ⟨_, kf_fr [5], fun Lr => t_load Try.isAgg145 rfl rfl rfl ((B79.kx hW.1).get rfl) (dz rfl hW)⟩
    · exact fun D ρ w102 hcD hnD hdD hW => ⟨_, kf_fr [35], fun Lr => t_len Try.underlying145 rfl rfl rfl rfl (dz rfl hW)⟩
    · exact fun D ρ w106 hcD hnD hdD hW => ⟨_, kf_fr [36], fun Lr => t_ari rfl rfl rfl rfl rfl (by omega) (dz rfl hW)⟩
    · exact fun D ρ w110 hcD hnD hdD hW => ⟨_, kf_fr [34, 37], fun Lr => t_index (j := (sp.length - 1)) Try.underlying145 Try.sizeOf144 rfl rfl rfl rfl (((((hacc.keep u68 (fun _ h => h)).keep u71 (fun hb => show ¬ (g2 = bk65) by first | omega | assumption)).keep hW.1 (fun _ h => h)).sl (fun _ => rfl)).addr (by omega)) (by omega) (by omega) (dz rfl hW)⟩
    · exact pzf Try.underlying144 rfl Try.sizeOf77 (0 + (sp.length - 1) * 3 + 0) rfl rfl rfl rfl rfl fun _ _ _ h => h
    · exact pzf Try.underlying77 rfl Try.sizeOf3 (0 + (sp.length - 1) * 3 + 0 + 0) rfl rfl rfl rfl rfl fun _ _ _ h => h
    · exact fun D ρ w116 hcD hnD hdD hW => ⟨_, kf_fr [40], fun Lr => t_load Try.isAgg3 rfl rfl rfl ((((((hacc.keep u68 (fun _ h => h)).keep u71 (fun hb => show ¬ (g2 = bk65) by first | omega | assumption)).keep hW.1 (fun _ h => h)).sl (fun _ => rfl)).at_ (sp.length - 1) (by omega)) 0 _ rfl) (dz rfl hW)⟩
    · exact fun D ρ w _ _ _ hW => ⟨[(41, .int .i64 ((nth sp (sp.length - 1)).lo))], ⟨fi 8 rfl rfl rfl, trivial⟩, fun Lr => t_build (ps := [(0, .int .i64 ((nth sp (sp.length - 1)).lo)), (1, .int .i64 1000000)]) (v := .agg #[.int .i64 ((nth sp (sp.length - 1)).lo), .int .i64 1000000]) rfl rfl ⟨rfl, rfl⟩ (fun w => by kernel_rfl) (dz rfl hW)⟩
    · exact pz rfl rfl rfl rfl fun _ _ _ h => h
    · exact fun D ρ w _ _ _ hW => ⟨[(42, .agg #[.int .i64 ((nth sp (sp.length - 1)).lo), .int .i64 1000000]), (43, .int .i64 (k : Int))], ⟨fi 9 rfl rfl rfl, fi 10 rfl rfl rfl, trivial⟩, fun Lr => t_build (ps := [(0, .agg #[.int .i64 ((nth sp (sp.length - 1)).lo), .int .i64 1000000]), (1, .int .i64 (k : Int))]) (v := .agg #[.int .i64 ((nth sp (sp.length - 1)).lo), .int .i64 1000000, .int .i64 (k : Int)]) rfl rfl ⟨rfl, rfl⟩ (fun w => by kernel_rfl) (dz rfl hW)⟩
    ·
     intro D ρ w121 hcD hnD hdD hW
     obtain ⟨u122, F123⟩ := hW
     have zu122 := u122.size
     refine ⟨_, kf_fr [44], fun Lr => ?_⟩
     refine t_bslice (ps := [(0, .agg #[.int .i64 ((nth sp (sp.length - 1)).lo), .int .i64 1000000, .int .i64 (k : Int)])]) (cs := [.int .i64 ((nth sp (sp.length - 1)).lo), .int .i64 1000000, .int .i64 (k : Int)]) (e := 144) rfl rfl ⟨rfl, rfl⟩ (fun w => by kernel_rfl) (fun bk125 w126 ebk125 sbk125 B127 u128 => ?_)
     have zu128 := u128.size
     exact dzn rfl ⟨(u122.next u128 (fun _ _ h => h.elim)), (fun _ => ⟨bk125, rfl, (by omega), (by show Blk w126 bk125 144 [.int .i64 ((nth sp (sp.length - 1)).lo), .int .i64 1000000, .int .i64 (k : Int)]; exact B127)⟩)⟩
    intro ρ w130 hW
    obtain ⟨u131, F132⟩ := hW
    have zu131 := u131.size
    obtain ⟨bk82, e134, gebk82, B135⟩ := F132 rfl
    have B135 : Blk w130 bk82 144 [.int .i64 ((nth sp (sp.length - 1)).lo), .int .i64 1000000, .int .i64 (k : Int)] := B135
    have lt_bk82 := B135.lt
    refine t_weak [(0, .slice ao us.length cap), (2, .pointer (some ⟨bk2, 0, none⟩)), (5, .pointer (some ⟨bk38, 0, none⟩)), (6, .int .i64 (k : Int)), (7, .pointer (some ⟨bk65, 0, none⟩)), (23, .slice ao us.length cap), (24, .int .i64 (us.length : Int)), (25, .int .i64 (k : Int)), (33, .slice ao2 sp.length c2), (45, .slice (some ⟨bk82, 0, none⟩) 1 1)] ⟨rfl, rfl, rfl, rfl, rfl, rfl, rfl, rfl, rfl, (look_nd (j := 12) rfl rfl rfl e134), trivial⟩ ?_
    have D136 := (((hacc.keep u68 (fun _ h => h)).keep u71 (fun hb => show ¬ (g2 = bk65) by first | omega | assumption)).keep u131 (fun _ h => h))
    refine t_append (z := .agg #[.int .i64 0, .int .i64 0, .int .i64 0]) (bytes := 24) (k := 3) (base := bk33) (⟨(nth sp (sp.length - 1)).lo, 1000000, (k : Int)⟩ : Span) Try.underlying145 (by kernel_rfl) rfl (by decide) (fun _ => rfl) (by intro x; simp [encSpan, Value.oneCell']) rfl rfl rfl rfl D136 B135 (by omega) (by omega) (by decide) (fun ao137 gb138 cp139 w140 A141 u142 gegb138 lngb138 => ?_)
    have zu142 := u142.size
    have lt_gb138 := A141.lt
    have B144 := ((B79.kx u131).keep u142 (by omega))
    refine t_st (vs := [.slice ao137 (((sp ++ [(⟨(nth sp (sp.length - 1)).lo, 1000000, (k : Int)⟩ : Span)])).length) cp139]) Try.sizeOf145 rfl rfl rfl B144 rfl rfl rfl rfl (fun w145 sw145 B147 u146 => ?_)
    have zu146 := u146.size
    have B147 : Blk w145 bk38 145 [.slice ao137 (((sp ++ [(⟨(nth sp (sp.length - 1)).lo, 1000000, (k : Int)⟩ : Span)])).length) cp139] := B147
    refine t_nil' ?_
    have D149 := (A141.keep u146 (fun hb => show ¬ (gb138 = bk38) by first | omega | assumption))
    exact hK75 (ao137, gb138, cp139, (sp ++ [(⟨(nth sp (sp.length - 1)).lo, 1000000, (k : Int)⟩ : Span)])) _ _ ⟨rfl, rfl, rfl, rfl, rfl, rfl, rfl, rfl, trivial⟩ ⟨((((Upd.refl _ _).next u131 (fun _ _ h => h.elim)).next u142 (fun i hi h => by omega)).next u146 (fun i hi h => by omega)), B147, (by unfold openS; rw [if_neg (by simpa using g32)]), D149, (by show gb138 = bk33 ∨ w43.heap.size ≤ gb138; omega)⟩
   refine c_skip ?_
   have B150 := ((I53.kx u68).keep u71 (by omega))
   have D151 := ((hacc.keep u68 (fun _ h => h)).keep u71 (fun hb => show ¬ (g2 = bk65) by first | omega | assumption))
   exact hK75 (ao2, g2, c2, sp) _ _ ⟨rfl, rfl, rfl, rfl, rfl, rfl, rfl, rfl, trivial⟩ ⟨(Upd.refl _ _), B150, (by unfold openS; rw [if_pos (by simpa using g32)]), D151, (by show g2 = bk33 ∨ w43.heap.size ≤ g2; omega)⟩
  intro gg w76 hW
  obtain ⟨ao3, g3, c3, os⟩ := gg
  change WC _ _ _ _ _ _ [(0, .slice ao us.length cap), (2, .pointer (some ⟨bk2, 0, none⟩)), (5, .pointer (some ⟨bk38, 0, none⟩)), (6, .int .i64 (k : Int)), (7, .pointer (some ⟨bk65, 0, none⟩)), (23, .slice ao us.length cap), (24, .int .i64 (us.length : Int)), (25, .int .i64 (k : Int))] _
  change Upd (fun i => i = bk38 ∨ (i = g2 ∧ bk33 ≤ i)) w70 w76 ∧ Blk w76 bk38 145 [.slice ao3 os.length c3] ∧ (os = openS sp k (nth us k)) ∧ (Acc encSpan 3 144 bk33 w76 ao3 g3 c3 os) ∧ (g3 = bk33 ∨ w43.heap.size ≤ g3) at hW
  obtain ⟨u77, I152, I153, I154, I155⟩ := hW
  have zu77 := u77.size
  have hos := I153; clear I153
  have hacc3 := I154; clear I154
  have hg3 := I155; clear I155
  have lt_g3 := hacc3.lt
  have ho := hok.open (nth us k)
  rw [← hos] at ho
  have ho1 := ho.pos
  have ho2 := ho.len
  have ho3 := ho.rng (os.length - 1) (by omega)
  have ho4 := ho.up (os.length - 1) (by omega)
  have hspr : (0 ≤ (nth os (os.length - 1)).lo ∧ (nth os (os.length - 1)).lo ≤ 1000000) ∧ (-1000000 ≤ (nth os (os.length - 1)).hi ∧ (nth os (os.length - 1)).hi ≤ 1000000) ∧ (0 ≤ (nth os (os.length - 1)).en ∧ (nth os (os.length - 1)).en ≤ 1000000) := by omega
  refine c_seq fun K157 hK157 => (c_region (t_load Try.isAgg145 rfl rfl rfl (I152.get rfl) (t_load Try.isAgg145 rfl rfl rfl (I152.get rfl) (t_len Try.underlying145 rfl rfl rfl rfl (t_ari rfl rfl rfl rfl rfl (by omega) ?_)))))
  have i158 : (os.length - 1) < os.length := (by omega)
  refine t_index (j := (os.length - 1)) Try.underlying145 Try.sizeOf144 rfl rfl rfl rfl ((hacc3.sl (fun _ => rfl)).addr (by omega)) (by omega) i158 (t_assign rfl rfl rfl (t_nil' (hK157 _ _ (c_seq fun K159 hK159 => (c_region (t_move rfl rfl rfl ?_))))))
  have B160 := (B72.keep u77 (by omega))
  refine t_loadN (vs := [.int .i64 ((nth us k).book), .int .i64 ((nth us k).lo), .int .i64 ((nth us k).hi), .bool ((nth us k).sealed)]) Try.isAgg79 Try.sizeOf79 rfl rfl rfl (B160.at.sub 0 4) rfl (t_call own62 rfl rfl rfl rfl (narrow_c bk33 ao3 g3 c3 os ((os.length - 1)) (nth us k) _ hacc3 (by omega) hxr hspr) (fun v161 w162 r164 => ?_))
  obtain ⟨hnr, u163⟩ := r164
  have zu163 := u163.size
  have lt_g3 := hnr.lt
  have hln : (os.set (os.length - 1) (narrowF (nth os (os.length - 1)) (nth us k))).length = os.length := by rw [List.length_set]
  refine t_nil' (hK159 _ _ (c_seq fun K166 hK166 => (c_drawnQ follows (by kernel_rfl) (p_move rfl rfl rfl (p_nilchk rfl rfl rfl (p_field Try.underlying144 rfl Try.sizeOf77 (0 + (os.length - 1) * 3 + 0) rfl rfl rfl rfl (p_field Try.underlying77 rfl Try.sizeOf3 (0 + (os.length - 1) * 3 + 0 + 0) rfl rfl rfl rfl (p_load Try.isAgg3 rfl rfl rfl (((hnr.sl (fun _ => rfl)).at_ (os.length - 1) (by omega)) 0 _ rfl) (p_move rfl rfl rfl (p_nilchk rfl rfl rfl (p_field Try.underlying144 rfl Try.sizeOf77 (0 + (os.length - 1) * 3 + 0) rfl rfl rfl rfl (p_field Try.underlying77 rfl Try.sizeOf3 (0 + (os.length - 1) * 3 + 0 + 1) rfl rfl rfl rfl (p_load Try.isAgg3 rfl rfl rfl (((hnr.sl (fun _ => rfl)).at_ (os.length - 1) (by omega)) 1 _ rfl) (p_cmp rfl rfl rfl rfl rfl (p_nil fun w167 u168 => ?_)))))))))))))))
  have zu168 := u168.size
  refine t_nil' (hK166 _ _ (c_condp rfl (fun g65 => ?_) (fun g65 => ?_)))
  ·
   have hbd : badS (os.set (os.length - 1) (narrowF (nth os (os.length - 1)) (nth us k))) := by unfold badS; rw [show ((os.set (os.length - 1) (narrowF (nth os (os.length - 1)) (nth us k)))).length - 1 = (os.length - 1) from (by simp)]; exact g65
   refine c_seq fun K170 hK170 => (c_region (t_move rfl rfl rfl ?_))
   have B171 := ((((((((((B4.kx u20).kx u36).kx u41).keep u44 (by omega)).keep u52 (by omega)).kx u68).keep u71 (by omega)).keep u77 (by omega)).keep u163 (by omega)).kx u168)
   refine t_st (vs := [.slice none 0 0]) Try.sizeOf73 rfl rfl rfl B171 rfl rfl rfl rfl (fun w172 sw172 B174 u173 => ?_)
   have zu173 := u173.size
   have B174 : Blk w172 bk2 73 [.slice none 0 0] := B174
   refine t_assign rfl rfl rfl (t_assign rfl rfl rfl (t_nil' (hK170 _ _ (c_ret ?_))))
   have hmkE := (show Marks w0.heap.size [] w172 from trivial)
   refine f_retMc3 (v1 := .slice none 0 0) (v2 := .int .i64 (k : Int)) (v3 := .int .i64 9) Try.results28 (.cell (show Marks w0.heap.size [] w172 from trivial) rfl Try.isAgg73 B174 rfl) (.tmp rfl) (.tmp rfl) (show Marks w0.heap.size [] w172 from trivial) (fun w176 u177 omw176 => ?_)
   have zu177 := u177.size
   exact ⟨.inr (.inr ⟨by omega, g18, .inl ⟨k, by rw [hrun, drop_nth (show k < us.length by omega), runS, if_pos (by have hst : stepS sp k (nth us k) = (os.set (os.length - 1) (narrowF (nth os (os.length - 1)) (nth us k))) := by { unfold stepS; rw [← hos] }; rw [hst]; exact hbd)], rfl⟩⟩), (((((((E59.nx u68).next u71 (fun i hi h => by omega)).next u77 (fun i hi h => by omega)).next u163 (fun i hi h => by omega)).nx u168).next u173 (fun i hi h => by omega)).next u177 (fun i hi (h : w0.heap.size ≤ i) => show False by first | omega | assumption))⟩
  have hnb : ¬ badS (os.set (os.length - 1) (narrowF (nth os (os.length - 1)) (nth us k))) := by unfold badS; rw [show ((os.set (os.length - 1) (narrowF (nth os (os.length - 1)) (nth us k)))).length - 1 = (os.length - 1) from (by simp)]; exact g65
  refine c_skip (hK62 _ _ (c_region (t_ari rfl rfl rfl rfl rfl (by omega) (t_move rfl rfl rfl (t_nil' ?_)))))
  have B179 := ((I152.keep u163 (by omega)).kx u168)
  have B180 : Blk w167 bk38 145 [.slice ao3 (((os.set (os.length - 1) (narrowF (nth os (os.length - 1)) (nth us k)))).length) c3] := by
    have e : ([.slice ao3 os.length c3] : List Value) = [.slice ao3 (((os.set (os.length - 1) (narrowF (nth os (os.length - 1)) (nth us k)))).length) c3] := (by simp)
    rw [← e]; exact B179
  have hst : stepS sp k (nth us k) = (os.set (os.length - 1) (narrowF (nth os (os.length - 1)) (nth us k))) := by unfold stepS; rw [← hos]
  have D181 := (hnr.keep u168 (fun _ h => h))
  exact hK50 (k + 1, ao3, g3, c3, (os.set (os.length - 1) (narrowF (nth os (os.length - 1)) (nth us k)))) _ _ (by show us.length - (k + 1) < us.length - k; omega) ⟨rfl, rfl, rfl, rfl, rfl, rfl, trivial⟩ ⟨(((((u52.next u68 (fun _ _ h => h.elim)).next u71 (fun i hi h => by omega)).next u77 (fun i hi h => by omega)).next u163 (fun i hi h => by omega)).next u168 (fun _ _ h => h.elim)), B180, (by omega), (by have h := hok.step (nth us k) (by rw [hst]; exact hnb); rw [hst] at h; exact h), (by rw [hrun, drop_nth (show k < us.length by omega), runS, if_neg (by rw [hst]; exact hnb), hst]; rfl), D181, (by omega)⟩
 refine c_exit (hK47 _ _ (c_seq fun K182 hK182 => (c_region (t_move rfl rfl rfl (t_len Try.underlying72 rfl rfl rfl rfl (t_makeN (enc := encBd) (k := 2) (z := .agg #[.int .i64 0, .int .i64 0]) (bytes := 16) (n := us.length) (⟨0, 0⟩ : Bd) Try.underlying73 (by kernel_rfl) rfl (by decide) (fun _ => rfl) (by decide) rfl rfl rfl rfl rfl (by omega) (fun bk183 w184 ebk183 sbk183 A185 u186 => ?_)))))))
 have zu186 := u186.size
 have lt_bk183 := A185.lt
 have B188 := ((((((B4.kx u20).kx u36).kx u41).keep u44 (by omega)).keep u52 (by omega)).kx u186)
 refine t_st (vs := [.slice (some ⟨bk183, 0, none⟩) us.length us.length]) Try.sizeOf73 rfl rfl rfl B188 rfl rfl rfl rfl (fun w189 sw189 B191 u190 => ?_)
 have zu190 := u190.size
 have B191 : Blk w189 bk2 73 [.slice (some ⟨bk183, 0, none⟩) us.length us.length] := B191
 refine t_nil' (hK182 _ _ (c_seq fun K193 hK193 => (c_region (t_alloc (cs := [.int .i64 0]) Try.zeroValue3 rfl rfl rfl (fun bk194 w195 ebk194 sbk194 B196 u197 => ?_)))))
 have zu197 := u197.size
 refine t_st (vs := [.int .i64 1000000]) Try.sizeOf3 rfl rfl rfl B196 rfl rfl rfl rfl (fun w199 sw199 B201 u200 => ?_)
 have zu200 := u200.size
 have B201 : Blk w199 bk194 3 [.int .i64 1000000] := B201
 refine t_nil' (hK193 _ _ (c_seq fun K203 hK203 => (c_seq fun K204 hK204 => (c_region ?_))))
 have B205 := ((((I53.kx u186).keep u190 (by omega)).kx u197).keep u200 (by omega))
 refine t_load Try.isAgg145 rfl rfl rfl (B205.get rfl) (t_call own63 rfl rfl rfl rfl (Backward_c ao2 sp.length c2 _) (fun v206 w207 r209 => ?_))
 obtain ⟨⟨bx, rfl, hgbx, hBx⟩, u208⟩ := r209
 have zu208 := u208.size
 refine t_nil' (hK204 _ _ (c_block ?_))
 have B211 := (B201.kx u208)
 have B212 := (B205.kx u208)
 have B213 := (((B191.kx u197).keep u200 (by omega)).kx u208)
 have D214 := ((((A185.keep u190 (fun hb => show ¬ (bk183 = bk2) by first | omega | assumption)).keep u197 (fun _ h => h)).keep u200 (fun hb => show ¬ (bk183 = bk194) by first | omega | assumption)).keep u208 (fun _ h => h))
 have D215 := (((((hacc.keep u186 (fun _ h => h)).keep u190 (fun hb => show ¬ (g2 = bk2) by first | omega | assumption)).keep u197 (fun _ h => h)).keep u200 (fun hb => show ¬ (g2 = bk194) by first | omega | assumption)).keep u208 (fun _ h => h))
 have hokn : SpOk sp us.length := by rw [← show k = us.length by omega]; exact hok
 have hrun2 : runS us 0 [⟨0, 0, 0⟩] = (sp, -1) := by rw [hrun, List.drop_eq_nil_of_le (by omega)]; rfl
 have hspl := hokn.len
 have hspA := D215
 have hlA := hspA.lt
 have hgL := (D214).lt
 have lw_bk194 := B211.lt
 have lw_bk38 := B212.lt
 have lw_bk2 := B213.lt
 have lw_bx := hBx.lt
 refine WC.weak [(2, .pointer (some ⟨bk2, 0, none⟩)), (5, .pointer (some ⟨bk38, 0, none⟩)), (9, .pointer (some ⟨bk194, 0, none⟩)), (72, .func (.func 82) #[] #[.pointer (some ⟨bx, 0, none⟩)])] ⟨rfl, rfl, rfl, rfl, trivial⟩ (c_rangeY2 (γ := BkE) (δ := Nat) (lb := [.pointer (some ⟨bx, 0, none⟩)]) (enc := (fun x : BkE => .int .i64 (x.i : Int))) (enc' := (fun x : BkE => .agg (encSpan (nth sp x.i)).toArray)) own82 rfl rfl rfl (YBk sp.length w207.heap.size (LosC sp us.length bk194 bk183 w207)) (ZBk (LosC sp us.length bk194 bk183 w207)) ((LosC sp us.length bk194 bk183 w207) 0) (fun x W W' h hl u => ⟨LosC.turned hgL _ _ _ h.1 hl u, h.2.trans (u.mono fun _ _ => trivial)⟩) (fun _ W W' h hl u => LosC.turned hgL _ _ _ h hl u) ?_ (fun x d => [(2, .pointer (some ⟨bk2, 0, none⟩)), (5, .pointer (some ⟨bk38, 0, none⟩)), (9, .pointer (some ⟨bk194, 0, none⟩)), (10, .int .i64 (x.i : Int)), (11, .pointer (some ⟨d, 0, none⟩))]) (LosY sp us.length bk194 bk183 w207) (LosY.turned hgL) ?_ ?_ ?_)
 ·
  intro l1 D R W hD hl hsz hE1 hH hR
  subst hD hl
  refine (back_c sp ao2 g2 0 c2 bx _ _ (LosC sp us.length bk194 bk183 w207) R W (fun k W W' h u => LosC.ext k W W' h u) (fun k W (h : (LosC sp us.length bk194 bk183 w207) k W) => (⟨hBx.keep h.1 (show ¬ (bx = bk194 ∨ bx = bk183 ∨ bx = (w207.heap.size + 1)) by omega), (D215.sl (fun _ => rfl)).keep h.1 (fun _ => show ¬ (g2 = bk194 ∨ g2 = bk183 ∨ g2 = (w207.heap.size + 1)) by omega)⟩ : Blk W bx 145 [.slice ao2 sp.length c2] ∧ Sl encSpan 3 W ao2 g2 0 sp)) hH ?_ hR (by omega) (by omega)).mono fun _ _ h => h
  exact ⟨Ext.to hE1, _, by rw [List.drop_length]; exact B211.keep hE1 id, D214.keep hE1 (fun _ h => h), by simp, LosR.top⟩
 ·
  intro l x W K216 hI hK216
  change WC _ _ _ _ _ _ [(74, .agg #[.int .i64 ((nth sp x.i).lo), .int .i64 ((nth sp x.i).hi), .int .i64 ((nth sp x.i).en)]), (73, .int .i64 (x.i : Int)), (2, .pointer (some ⟨bk2, 0, none⟩)), (5, .pointer (some ⟨bk38, 0, none⟩)), (9, .pointer (some ⟨bk194, 0, none⟩)), (72, .func (.func 82) #[] #[.pointer (some ⟨bx, 0, none⟩)])] _
  obtain ⟨hi1, hC1, hD1, hU1⟩ := hI
  refine c_seq fun K217 hK217 => (c_region (t_assign rfl rfl rfl (t_nil' (hK217 _ _ (c_region (t_alloc (cs := [.int .i64 0, .int .i64 0, .int .i64 0]) Try.zeroValue144 rfl rfl rfl (fun bk218 w219 ebk218 sbk218 B220 u221 => ?_)))))))
  have zu221 := u221.size
  refine t_st (vs := [.int .i64 ((nth sp x.i).lo), .int .i64 ((nth sp x.i).hi), .int .i64 ((nth sp x.i).en)]) Try.sizeOf144 rfl rfl rfl B220 rfl rfl rfl rfl (fun w223 sw223 B225 u224 => ?_)
  have zu224 := u224.size
  have E226 := ((Upd.refl (fun _ => False) W).nx u221).next u224 (fun i hi h => by omega)
  have B225 : Blk w223 bk218 144 [.int .i64 ((nth sp x.i).lo), .int .i64 ((nth sp x.i).hi), .int .i64 ((nth sp x.i).en)] := B225
  refine t_nil' ?_
  have hsz1 := E226.size
  exact hK216 bk218 _ _ ⟨rfl, rfl, rfl, rfl, rfl, trivial⟩ E226 ⟨⟨hi1, LosC.ext _ _ _ hC1 E226, hU1.trans (Ext.to E226)⟩, B225, by omega⟩
 ·
  intro l x d w227 hY
  obtain ⟨⟨hi1, hC1, hU1⟩, hBd, hdg⟩ := hY
  have hur := hokn.up _ hi1
  have hrr := hokn.rng _ hi1
  have hl0 := LosR.len0 hokn hi1
  obtain ⟨u228, M, O229, O230, hML, hLos⟩ := hC1
  have zu228 := u228.size
  have lt_bk183 := O230.lt
  change WC _ _ _ _ _ _ [(2, .pointer (some ⟨bk2, 0, none⟩)), (5, .pointer (some ⟨bk38, 0, none⟩)), (9, .pointer (some ⟨bk194, 0, none⟩)), (10, .int .i64 (x.i : Int)), (11, .pointer (some ⟨d, 0, none⟩))] _
  have hcellsR := ((O229).cellsIn.or (O230).cellsIn)
  refine c_block (c_seq fun K232 hK232 => (c_region (t_load Try.isAgg3 rfl rfl rfl (O229.get rfl) (t_field Try.underlying144 rfl Try.sizeOf77 (0) rfl rfl rfl rfl (t_field Try.underlying77 rfl Try.sizeOf3 (1) rfl rfl rfl rfl (t_load Try.isAgg3 rfl rfl rfl (hBd.get rfl) (t_min rfl rfl rfl rfl (t_st (vs := [.int .i64 (min (mostF (sp.drop (x.i + 1))) ((nth sp x.i).hi))]) Try.sizeOf3 rfl rfl rfl O229 rfl rfl rfl rfl (fun w233 sw233 B235 u234 => ?_)))))))))
  have zu234 := u234.size
  have B235 : Blk w233 bk194 3 [.int .i64 (min (mostF (sp.drop (x.i + 1))) ((nth sp x.i).hi))] := B235
  have B237 : Blk w233 bk194 3 [.int .i64 (mostF (sp.drop x.i))] := by
    have e : ([.int .i64 (min (mostF (sp.drop (x.i + 1))) ((nth sp x.i).hi))] : List Value) = [.int .i64 (mostF (sp.drop x.i))] := (by rw [mostF_drop hi1])
    rw [← e]; exact B235
  refine t_nil' (hK232 _ _ (c_seq fun K238 hK238 => (c_region (t_assign rfl rfl rfl (t_same 12 (v := .int .i64 0) rfl rfl (t_nil' (hK238 _ _ (c_seq fun K239 hK239 => (c_seq fun K240 hK240 => (c_region (t_move rfl rfl rfl (t_cmp rfl rfl rfl rfl rfl (t_nil' (hK240 _ _ (c_condp rfl (fun g81 => ?_) (fun g81 => ?_))))))))))))))))
  ·
   refine c_region ?_
   have B241 := ((B212.keep u228 (by omega)).keep u234 (by omega))
   refine t_load Try.isAgg145 rfl rfl rfl (B241.get rfl) (t_move rfl rfl rfl (t_ari rfl rfl rfl rfl rfl (by omega) ?_))
   have D242 := ((D215.keep u228 (fun hb => show ¬ (g2 = bk194 ∨ g2 = bk183 ∨ g2 = (w207.heap.size + 1)) by first | omega | assumption)).keep u234 (fun hb => show ¬ (g2 = bk194) by first | omega | assumption))
   have i243 : (x.i - 1) < sp.length := (by omega)
   refine t_index (j := (x.i - 1)) Try.underlying145 Try.sizeOf144 rfl rfl rfl rfl ((D242.sl (fun _ => rfl)).addr (by omega)) (by omega) i243 (t_field Try.underlying144 rfl Try.sizeOf3 (0 + (x.i - 1) * 3 + 2) rfl rfl rfl rfl (t_load Try.isAgg3 rfl rfl rfl (((D242.sl (fun _ => rfl)).at_ (x.i - 1) (by omega)) 2 _ rfl) (t_assign rfl rfl rfl (t_same 12 (v := .int .i64 (begS sp x.i)) rfl (congrArg (Value.int .i64) (by unfold begS; rw [if_neg (by omega)])) (t_nil' (hK239 _ _ (c_seq fun K244 hK244 => (c_region ?_))))))))
   have B245 := ((B213.keep u228 (by omega)).keep u234 (by omega))
   refine t_load Try.isAgg73 rfl rfl rfl (B245.get rfl) (t_move rfl rfl rfl (t_field Try.underlying144 rfl Try.sizeOf3 (2) rfl rfl rfl rfl ?_))
   have B246 := (hBd.keep u234 (by omega))
   refine t_load Try.isAgg3 rfl rfl rfl (B246.get rfl) ?_
   have D247 := (O230.keep u234 (fun hb => show ¬ (bk183 = bk194) by first | omega | assumption))
   refine t_sliceM ((begS sp x.i).toNat) (((nth sp x.i).en - begS sp x.i).toNat) Try.underlying73 Try.sizeOf77 rfl rfl rfl rfl rfl (by omega) (by omega) (by omega) (t_len Try.underlying73 rfl rfl rfl rfl (t_move rfl rfl rfl (t_nil' (hK244 _ _ (c_block (c_loop (γ := Nat × List Bd) (fun gg => [(2, .pointer (some ⟨bk2, 0, none⟩)), (5, .pointer (some ⟨bk38, 0, none⟩)), (9, .pointer (some ⟨bk194, 0, none⟩)), (10, .int .i64 (x.i : Int)), (11, .pointer (some ⟨d, 0, none⟩)), (12, .int .i64 (begS sp x.i)), (75, .int .i64 (mostF (sp.drop (x.i + 1)))), (76, .pointer (some ⟨d, 0, none⟩)), (77, .pointer (some ⟨d, 1, none⟩)), (78, .int .i64 ((nth sp x.i).hi)), (79, .int .i64 (min (mostF (sp.drop (x.i + 1))) ((nth sp x.i).hi))), (80, .int .i64 (x.i : Int)), (81, .bool (decide (0 < (x.i : Int)))), (82, .slice ao2 sp.length c2), (83, .int .i64 (x.i : Int)), (84, .int .i64 ((x.i : Int) - 1)), (85, .pointer (some ⟨g2, 0 + (x.i - 1) * 3, none⟩)), (86, .pointer (some ⟨g2, 0 + (x.i - 1) * 3 + 2, none⟩)), (87, .int .i64 ((nth sp (x.i - 1)).en)), (88, .slice (some ⟨bk183, 0, none⟩) us.length us.length), (89, .int .i64 (begS sp x.i)), (90, .pointer (some ⟨d, 2, none⟩)), (91, .int .i64 ((nth sp x.i).en)), (92, .slice (subAddr (some ⟨bk183, 0, none⟩) us.length ((begS sp x.i).toNat) 2) (((nth sp x.i).en - begS sp x.i).toNat) (us.length - ((begS sp x.i).toNat))), (93, .int .i64 (((nth sp x.i).en - begS sp x.i).toNat : Int)), (94, .int .i64 (gg.1 : Int))]) (fun gg w => Upd (fun i => i = bk183) w233 w ∧ (gg.1 ≤ ((nth sp x.i).en - begS sp x.i).toNat) ∧ (Filled M gg.2 (begS sp x.i).toNat gg.1 ⟨(nth sp x.i).lo, mostF (sp.drop x.i)⟩) ∧ (Acc encBd 2 77 bk183 w (some ⟨bk183, 0, none⟩) bk183 us.length gg.2)) (fun gg => ((nth sp x.i).en - begS sp x.i).toNat - gg.1) (0, M) ⟨rfl, rfl, rfl, rfl, rfl, rfl, rfl, rfl, rfl, rfl, rfl, rfl, rfl, rfl, rfl, rfl, rfl, rfl, rfl, rfl, rfl, rfl, rfl, rfl, rfl, rfl, trivial⟩ ⟨Upd.refl _ _, (Nat.zero_le _), Filled.zero, D247⟩ ?_))))))
   intro gg w249 hW K248 hK248
   obtain ⟨t, M2⟩ := gg
   change WC _ _ _ _ _ _ [(2, .pointer (some ⟨bk2, 0, none⟩)), (5, .pointer (some ⟨bk38, 0, none⟩)), (9, .pointer (some ⟨bk194, 0, none⟩)), (10, .int .i64 (x.i : Int)), (11, .pointer (some ⟨d, 0, none⟩)), (12, .int .i64 (begS sp x.i)), (75, .int .i64 (mostF (sp.drop (x.i + 1)))), (76, .pointer (some ⟨d, 0, none⟩)), (77, .pointer (some ⟨d, 1, none⟩)), (78, .int .i64 ((nth sp x.i).hi)), (79, .int .i64 (min (mostF (sp.drop (x.i + 1))) ((nth sp x.i).hi))), (80, .int .i64 (x.i : Int)), (81, .bool (decide (0 < (x.i : Int)))), (82, .slice ao2 sp.length c2), (83, .int .i64 (x.i : Int)), (84, .int .i64 ((x.i : Int) - 1)), (85, .pointer (some ⟨g2, 0 + (x.i - 1) * 3, none⟩)), (86, .pointer (some ⟨g2, 0 + (x.i - 1) * 3 + 2, none⟩)), (87, .int .i64 ((nth sp (x.i - 1)).en)), (88, .slice (some ⟨bk183, 0, none⟩) us.length us.length), (89, .int .i64 (begS sp x.i)), (90, .pointer (some ⟨d, 2, none⟩)), (91, .int .i64 ((nth sp x.i).en)), (92, .slice (subAddr (some ⟨bk183, 0, none⟩) us.length ((begS sp x.i).toNat) 2) (((nth sp x.i).en - begS sp x.i).toNat) (us.length - ((begS sp x.i).toNat))), (93, .int .i64 (((nth sp x.i).en - begS sp x.i).toNat : Int)), (94, .int .i64 (t : Int))] _
   change Upd (fun i => i = bk183) w233 w249 ∧ (t ≤ ((nth sp x.i).en - begS sp x.i).toNat) ∧ (Filled M M2 (begS sp x.i).toNat t ⟨(nth sp x.i).lo, mostF (sp.drop x.i)⟩) ∧ (Acc encBd 2 77 bk183 w249 (some ⟨bk183, 0, none⟩) bk183 us.length M2) at hW
   obtain ⟨u250, I251, I252, I253⟩ := hW
   have zu250 := u250.size
   have ht := I251; clear I251
   have hfil := I252; clear I252
   have hac2 := I253; clear I253
   have lt_bk183 := hac2.lt
   have hfl := hfil.1
   refine c_seq fun K255 hK255 => (c_region (t_cmp rfl rfl rfl rfl rfl (t_nil' (hK255 _ _ (c_seq fun K256 hK256 => (c_condp rfl (fun g95 => ?_) (fun g95 => ?_)))))))
   ·
    refine c_skip (hK256 _ _ (c_seq fun K257 hK257 => (c_block (c_seq fun K258 hK258 => (c_region (t_move rfl rfl rfl (t_assign rfl rfl rfl (t_nil' (hK258 _ _ (c_region ?_))))))))))
    have B259 := (B245.keep u250 (by omega))
    refine t_load Try.isAgg73 rfl rfl rfl (B259.get rfl) (t_move rfl rfl rfl (t_move rfl rfl rfl (t_ari rfl rfl rfl rfl rfl (by omega) (t_field Try.underlying144 rfl Try.sizeOf77 (0) rfl rfl rfl rfl (t_field Try.underlying77 rfl Try.sizeOf3 (0) rfl rfl rfl rfl ?_)))))
    have B260 := (B246.keep u250 (by omega))
    refine t_load Try.isAgg3 rfl rfl rfl (B260.get rfl) ?_
    have B261 := (B237.keep u250 (by omega))
    refine t_load Try.isAgg3 rfl rfl rfl (B261.get rfl) (t_build (ps := [(0, .int .i64 ((nth sp x.i).lo)), (1, .int .i64 (mostF (sp.drop x.i)))]) (v := .agg #[.int .i64 ((nth sp x.i).lo), .int .i64 (mostF (sp.drop x.i))]) rfl rfl ⟨rfl, rfl⟩ (fun w => by kernel_rfl) ?_)
    have i262 : ((begS sp x.i).toNat + t) < M2.length := (by omega)
    refine t_index (j := ((begS sp x.i).toNat + t)) Try.underlying73 Try.sizeOf77 rfl rfl rfl rfl ((hac2.sl (fun _ => rfl)).addr (by omega)) (by omega) (by omega) (t_storeA (vs := [.int .i64 ((nth sp x.i).lo), .int .i64 (mostF (sp.drop x.i))]) (j := ((begS sp x.i).toNat + t)) (o' := 0) (k := 2) (⟨(nth sp x.i).lo, (mostF (sp.drop x.i))⟩ : Bd) (fun _ => rfl) Try.sizeOf77 rfl rfl (by omega) rfl hac2 (by omega) rfl rfl (by decide) (by simp [Value.oneCell']) rfl (fun w263 R265 u264 => ?_))
    have zu264 := u264.size
    refine t_nil' (hK257 _ _ (c_region (t_ari rfl rfl rfl rfl rfl (by omega) (t_move rfl rfl rfl (t_nil' ?_)))))
    exact hK248 (t + 1, (M2.set ((begS sp x.i).toNat + t) (⟨(nth sp x.i).lo, (mostF (sp.drop x.i))⟩ : Bd))) _ _ (by show ((nth sp x.i).en - begS sp x.i).toNat - (t + 1) < ((nth sp x.i).en - begS sp x.i).toNat - t; omega) ⟨rfl, rfl, rfl, rfl, rfl, rfl, rfl, rfl, rfl, rfl, rfl, rfl, rfl, rfl, rfl, rfl, rfl, rfl, rfl, rfl, rfl, rfl, rfl, rfl, rfl, rfl, trivial⟩ ⟨(u250.next u264 (fun i hi h => by omega)), (by omega), (hfil.next (by omega)), R265⟩
   refine c_exit ?_
   have hUr := (((Upd.refl (fun i => i = bk194 ∨ (i = bk183 ∧ bk183 ≤ i)) w227).next u234 (fun i hi h => by omega)).next u250 (fun i hi h => by omega))
   have B267 := (B237.keep u250 (by omega))
   exact fun a ha => ⟨KeepsFrom.of_upd hUr hcellsR, ⟨⟨((u228.next u234 (fun i hi (h : i = bk194) => show i = bk194 ∨ i = bk183 ∨ i = (w207.heap.size + 1) by first | omega | assumption)).next u250 (fun i hi (h : i = bk183) => show i = bk194 ∨ i = bk183 ∨ i = (w207.heap.size + 1) by first | omega | assumption)), M2, B267, hac2, (by rw [hfil.1]; exact hML), (hLos.next hokn hML hi1 (by rw [← show t = ((nth sp x.i).en - begS sp x.i).toNat by omega]; exact hfil))⟩, (hU1.trans (hUr.mono fun _ _ => trivial))⟩⟩
  refine c_same 12 (v := .int .i64 (begS sp x.i)) rfl (congrArg (Value.int .i64) (by unfold begS; rw [if_pos (by omega)])) (c_skip (hK239 _ _ (c_seq fun K268 hK268 => (c_region ?_))))
  have B269 := ((B213.keep u228 (by omega)).keep u234 (by omega))
  refine t_load Try.isAgg73 rfl rfl rfl (B269.get rfl) (t_move rfl rfl rfl (t_field Try.underlying144 rfl Try.sizeOf3 (2) rfl rfl rfl rfl ?_))
  have B270 := (hBd.keep u234 (by omega))
  refine t_load Try.isAgg3 rfl rfl rfl (B270.get rfl) ?_
  have D271 := (O230.keep u234 (fun hb => show ¬ (bk183 = bk194) by first | omega | assumption))
  refine t_sliceM ((begS sp x.i).toNat) (((nth sp x.i).en - begS sp x.i).toNat) Try.underlying73 Try.sizeOf77 rfl rfl rfl rfl rfl (by omega) (by omega) (by omega) (t_len Try.underlying73 rfl rfl rfl rfl (t_move rfl rfl rfl (t_nil' (hK268 _ _ (c_block (c_loop (γ := Nat × List Bd) (fun gg => [(2, .pointer (some ⟨bk2, 0, none⟩)), (5, .pointer (some ⟨bk38, 0, none⟩)), (9, .pointer (some ⟨bk194, 0, none⟩)), (10, .int .i64 (x.i : Int)), (11, .pointer (some ⟨d, 0, none⟩)), (12, .int .i64 (begS sp x.i)), (75, .int .i64 (mostF (sp.drop (x.i + 1)))), (76, .pointer (some ⟨d, 0, none⟩)), (77, .pointer (some ⟨d, 1, none⟩)), (78, .int .i64 ((nth sp x.i).hi)), (79, .int .i64 (min (mostF (sp.drop (x.i + 1))) ((nth sp x.i).hi))), (80, .int .i64 (x.i : Int)), (81, .bool (decide (0 < (x.i : Int)))), (88, .slice (some ⟨bk183, 0, none⟩) us.length us.length), (89, .int .i64 (begS sp x.i)), (90, .pointer (some ⟨d, 2, none⟩)), (91, .int .i64 ((nth sp x.i).en)), (92, .slice (subAddr (some ⟨bk183, 0, none⟩) us.length ((begS sp x.i).toNat) 2) (((nth sp x.i).en - begS sp x.i).toNat) (us.length - ((begS sp x.i).toNat))), (93, .int .i64 (((nth sp x.i).en - begS sp x.i).toNat : Int)), (94, .int .i64 (gg.1 : Int))]) (fun gg w => Upd (fun i => i = bk183) w233 w ∧ (gg.1 ≤ ((nth sp x.i).en - begS sp x.i).toNat) ∧ (Filled M gg.2 (begS sp x.i).toNat gg.1 ⟨(nth sp x.i).lo, mostF (sp.drop x.i)⟩) ∧ (Acc encBd 2 77 bk183 w (some ⟨bk183, 0, none⟩) bk183 us.length gg.2)) (fun gg => ((nth sp x.i).en - begS sp x.i).toNat - gg.1) (0, M) ⟨rfl, rfl, rfl, rfl, rfl, rfl, rfl, rfl, rfl, rfl, rfl, rfl, rfl, rfl, rfl, rfl, rfl, rfl, rfl, rfl, trivial⟩ ⟨Upd.refl _ _, (Nat.zero_le _), Filled.zero, D271⟩ ?_))))))
  intro gg w273 hW K272 hK272
  obtain ⟨t, M2⟩ := gg
  change WC _ _ _ _ _ _ [(2, .pointer (some ⟨bk2, 0, none⟩)), (5, .pointer (some ⟨bk38, 0, none⟩)), (9, .pointer (some ⟨bk194, 0, none⟩)), (10, .int .i64 (x.i : Int)), (11, .pointer (some ⟨d, 0, none⟩)), (12, .int .i64 (begS sp x.i)), (75, .int .i64 (mostF (sp.drop (x.i + 1)))), (76, .pointer (some ⟨d, 0, none⟩)), (77, .pointer (some ⟨d, 1, none⟩)), (78, .int .i64 ((nth sp x.i).hi)), (79, .int .i64 (min (mostF (sp.drop (x.i + 1))) ((nth sp x.i).hi))), (80, .int .i64 (x.i : Int)), (81, .bool (decide (0 < (x.i : Int)))), (88, .slice (some ⟨bk183, 0, none⟩) us.length us.length), (89, .int .i64 (begS sp x.i)), (90, .pointer (some ⟨d, 2, none⟩)), (91, .int .i64 ((nth sp x.i).en)), (92, .slice (subAddr (some ⟨bk183, 0, none⟩) us.length ((begS sp x.i).toNat) 2) (((nth sp x.i).en - begS sp x.i).toNat) (us.length - ((begS sp x.i).toNat))), (93, .int .i64 (((nth sp x.i).en - begS sp x.i).toNat : Int)), (94, .int .i64 (t : Int))] _
  change Upd (fun i => i = bk183) w233 w273 ∧ (t ≤ ((nth sp x.i).en - begS sp x.i).toNat) ∧ (Filled M M2 (begS sp x.i).toNat t ⟨(nth sp x.i).lo, mostF (sp.drop x.i)⟩) ∧ (Acc encBd 2 77 bk183 w273 (some ⟨bk183, 0, none⟩) bk183 us.length M2) at hW
  obtain ⟨u274, I275, I276, I277⟩ := hW
  have zu274 := u274.size
  have ht := I275; clear I275
  have hfil := I276; clear I276
  have hac2 := I277; clear I277
  have lt_bk183 := hac2.lt
  have hfl := hfil.1
  refine c_seq fun K279 hK279 => (c_region (t_cmp rfl rfl rfl rfl rfl (t_nil' (hK279 _ _ (c_seq fun K280 hK280 => (c_condp rfl (fun g95 => ?_) (fun g95 => ?_)))))))
  ·
   refine c_skip (hK280 _ _ (c_seq fun K281 hK281 => (c_block (c_seq fun K282 hK282 => (c_region (t_move rfl rfl rfl (t_assign rfl rfl rfl (t_nil' (hK282 _ _ (c_region ?_))))))))))
   have B283 := (B269.keep u274 (by omega))
   refine t_load Try.isAgg73 rfl rfl rfl (B283.get rfl) (t_move rfl rfl rfl (t_move rfl rfl rfl (t_ari rfl rfl rfl rfl rfl (by omega) (t_field Try.underlying144 rfl Try.sizeOf77 (0) rfl rfl rfl rfl (t_field Try.underlying77 rfl Try.sizeOf3 (0) rfl rfl rfl rfl ?_)))))
   have B284 := (B270.keep u274 (by omega))
   refine t_load Try.isAgg3 rfl rfl rfl (B284.get rfl) ?_
   have B285 := (B237.keep u274 (by omega))
   refine t_load Try.isAgg3 rfl rfl rfl (B285.get rfl) (t_build (ps := [(0, .int .i64 ((nth sp x.i).lo)), (1, .int .i64 (mostF (sp.drop x.i)))]) (v := .agg #[.int .i64 ((nth sp x.i).lo), .int .i64 (mostF (sp.drop x.i))]) rfl rfl ⟨rfl, rfl⟩ (fun w => by kernel_rfl) ?_)
   have i286 : ((begS sp x.i).toNat + t) < M2.length := (by omega)
   refine t_index (j := ((begS sp x.i).toNat + t)) Try.underlying73 Try.sizeOf77 rfl rfl rfl rfl ((hac2.sl (fun _ => rfl)).addr (by omega)) (by omega) (by omega) (t_storeA (vs := [.int .i64 ((nth sp x.i).lo), .int .i64 (mostF (sp.drop x.i))]) (j := ((begS sp x.i).toNat + t)) (o' := 0) (k := 2) (⟨(nth sp x.i).lo, (mostF (sp.drop x.i))⟩ : Bd) (fun _ => rfl) Try.sizeOf77 rfl rfl (by omega) rfl hac2 (by omega) rfl rfl (by decide) (by simp [Value.oneCell']) rfl (fun w287 R289 u288 => ?_))
   have zu288 := u288.size
   refine t_nil' (hK281 _ _ (c_region (t_ari rfl rfl rfl rfl rfl (by omega) (t_move rfl rfl rfl (t_nil' ?_)))))
   exact hK272 (t + 1, (M2.set ((begS sp x.i).toNat + t) (⟨(nth sp x.i).lo, (mostF (sp.drop x.i))⟩ : Bd))) _ _ (by show ((nth sp x.i).en - begS sp x.i).toNat - (t + 1) < ((nth sp x.i).en - begS sp x.i).toNat - t; omega) ⟨rfl, rfl, rfl, rfl, rfl, rfl, rfl, rfl, rfl, rfl, rfl, rfl, rfl, rfl, rfl, rfl, rfl, rfl, rfl, rfl, trivial⟩ ⟨(u274.next u288 (fun i hi h => by omega)), (by omega), (hfil.next (by omega)), R289⟩
  refine c_exit ?_
  have hUr := (((Upd.refl (fun i => i = bk194 ∨ (i = bk183 ∧ bk183 ≤ i)) w227).next u234 (fun i hi h => by omega)).next u274 (fun i hi h => by omega))
  have B291 := (B237.keep u274 (by omega))
  exact fun a ha => ⟨KeepsFrom.of_upd hUr hcellsR, ⟨⟨((u228.next u234 (fun i hi (h : i = bk194) => show i = bk194 ∨ i = bk183 ∨ i = (w207.heap.size + 1) by first | omega | assumption)).next u274 (fun i hi (h : i = bk183) => show i = bk194 ∨ i = bk183 ∨ i = (w207.heap.size + 1) by first | omega | assumption)), M2, B291, hac2, (by rw [hfil.1]; exact hML), (hLos.next hokn hML hi1 (by rw [← show t = ((nth sp x.i).en - begS sp x.i).toNat by omega]; exact hfil))⟩, (hU1.trans (hUr.mono fun _ _ => trivial))⟩⟩
 ·
  have hmk0 := (show Marks w0.heap.size [] w207 from trivial)
  have hmc0 := (show CellsIn (fun i => i = bk194 ∨ i = bk183 ∨ i = (w207.heap.size + 1)) w207 from fun k hk e => by
    rcases e with rfl | rfl | e
    · exact ⟨_, _, _, B211⟩
    · exact (D214).cellsIn _ hk ⟨rfl, Nat.le_refl _⟩
    · omega)
  intro D293 w292 hD293 hE hdD293
  obtain ⟨u294, M, O295, O296, hML, hLos⟩ := hE
  have zu294 := u294.size
  have lt_bk183 := O296.lt
  have mk298 := (hmk0.keep u294 hmc0).push (D := D293) (by omega) hdD293 (fun d hd D' e => Nat.lt_of_lt_of_le (hmk0.lt d hd D' e) hD293)
  refine hK203 _ _ (c_seq fun K299 hK299 => (c_region ?_))
  have B300 := (B213.keep u294 (by omega))
  refine t_load Try.isAgg73 rfl rfl rfl (B300.get rfl) (t_st (vs := [.slice (some ⟨bk183, 0, none⟩) us.length us.length]) Try.sizeOf73 rfl rfl rfl B300 rfl rfl rfl rfl (fun w301 sw301 B303 u302 => ?_))
  have zu302 := u302.size
  have B303 : Blk w301 bk2 73 [.slice (some ⟨bk183, 0, none⟩) us.length us.length] := B303
  refine t_assign rfl rfl rfl (t_assign rfl rfl rfl (t_nil' (hK299 _ _ (c_ret ?_))))
  have D305 := (O296.keep u302 (fun hb => show ¬ (bk183 = bk2) by first | omega | assumption))
  have hlA9 := D305
  have D308 := (mk298.keep u302 (B300).cellsIn)
  have hmkE := D308
  refine f_retMc3 (v1 := .slice (some ⟨bk183, 0, none⟩) us.length us.length) (v2 := .int .i64 0) (v3 := .int .i64 0) Try.results28 (.cell D308 rfl Try.isAgg73 B303 rfl) (.tmp rfl) (.tmp rfl) D308 (fun w306 u307 omw306 => ?_)
  have zu307 := u307.size
  exact ⟨.inr (.inr ⟨by omega, g18, .inr ⟨by rw [hrun2], bk183, M, rfl, (hlA9.keep omw306 (fun _ h => by obtain ⟨_, cur, hc⟩ := hlA9.cell; exact hmkE.notCells hc h)).sl (fun _ => rfl), hML, by rw [hrun2]; exact hLos⟩⟩), ((((((((E59.nx u186).next u190 (fun i hi h => by omega)).nx u197).next u200 (fun i hi h => by omega)).nx u208).next u294 (fun i hi h => by omega)).next u302 (fun i hi h => by omega)).next u307 (fun i hi (h : w0.heap.size ≤ i) => show False by first | omega | assumption))⟩

end Go.Proofs.Ytblkphbblkncdaa
