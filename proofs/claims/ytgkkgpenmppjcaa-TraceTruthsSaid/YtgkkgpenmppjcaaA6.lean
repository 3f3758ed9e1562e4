/-
  The contract of Losses. Conditions: none.
-/
import Derived.Test.YtgkkgpenmppjcaaA5
import Derived.Test.YtgkkgpenmppjcaaMkn
import Derived.Test.YtgkkgpenmppjcaaMc
namespace Go.Proofs.Ytgkkgpenmppjcaa
open Go Go.RowKit

theorem LosR.len0 {sp : List Span} {n : Nat} (h : SpOk sp n) {k : Nat} (hk : k < sp.length) : (begS sp k).toNat + ((nth sp k).en - begS sp k).toNat ≤ n ∧ ((begS sp k).toNat : Int) = begS sp k ∧ (((begS sp k).toNat + ((nth sp k).en - begS sp k).toNat : Nat) : Int) = (nth sp k).en := by
  have := h.up k hk
  omega
theorem own28 : Own Try.prog 28 := ⟨Try.f28, Try.func28, by kernel_rfl, by kernel_rfl⟩

theorem Backward_c (ao : Option Addr) (n cap : Nat) (w0 : World) :
    CallsV Try.prog 63 [.slice ao n cap] w0 (fun v w' => (∃ bx, v = .func (.func 82) #[] #[.pointer (some ⟨bx, 0, none⟩)] ∧ w0.heap.size ≤ bx ∧ Blk w' bx 145 [.slice ao n cap]) ∧ Ext w0 w') := by
 have E0 := Upd.refl (fun _ => False) w0
 refine f_enter (N := 4) Try.func63 rfl rfl rfl ?_
 change WC _ _ _ _ _ _ [(0, .slice ao n cap)] _
 refine c_seq fun K1 hK1 => (c_region (t_box (cs := [.slice ao n cap]) rfl rfl rfl rfl (fun bk2 w3 ebk2 sbk2 B4 u5 => ?_)))
 have zu5 := u5.size
 have E6 := E0.next u5 (fun _ _ h => h.elim)
 refine t_assign rfl rfl rfl (t_nil' (hK1 _ _ (c_seq fun K7 hK7 => (c_region (t_mkfunc (vs := []) (us := [.pointer (some ⟨bk2, 0, none⟩)]) rfl rfl rfl rfl (t_assign rfl rfl rfl (t_nil' (hK7 _ _ (c_ret (f_ret1 (v := .func (.func 82) #[] #[.pointer (some ⟨bk2, 0, none⟩)]) Try.results63 rfl ?_))))))))))
 exact ⟨⟨_, rfl, by omega, B4⟩, E6⟩


/-- What the loop backwards over the spans has written, from the k-th on. -/
def LosC (sp : List Span) (n bm gL : Nat) (wR : World) (k : Nat) (W : World) : Prop := Upd (fun i => i = bm ∨ i = gL ∨ i = wR.heap.size + 1) wR W ∧ ∃ M : List Bd, Blk W bm 3 [.int .i64 (mostF (sp.drop k))] ∧ Acc encBd 2 77 gL W (some ⟨gL, 0, none⟩) gL n M ∧ M.length = n ∧ LosR sp k M
theorem LosC.ext {sp : List Span} {n bm gL : Nat} {wR : World} (k : Nat) (W W' : World) (h : LosC sp n bm gL wR k W) (u : Ext W W') : LosC sp n bm gL wR k W' := by
  obtain ⟨h0, M, h1, h2, h3⟩ := h
  exact ⟨h0.next u (fun _ _ h => h.elim), M, h1.keep u id, h2.keep u (fun _ h => h), h3⟩
theorem LosC.turned {sp : List Span} {n bm gL : Nat} {wR : World} (hg : gL < wR.heap.size) (k : Nat) (W W' : World) (h : LosC sp n bm gL wR k W) (hl : ∃ r, W.heap[wR.heap.size + 1]? = some (.loop r)) (u : Upd (· = wR.heap.size + 1) W W') : LosC sp n bm gL wR k W' := by
  obtain ⟨h0, M, h1, h2, h3⟩ := h
  exact ⟨h0.trans (u.mono fun i e => .inr (.inr e)), M, h1.keep u (h1.notLoop hl), h2.keep u (fun _ e => by omega), h3⟩
def LosY (sp : List Span) (n bm gL : Nat) (wR : World) (x : BkE) (d : Nat) (W : World) : Prop := (x.i < sp.length ∧ LosC sp n bm gL wR (x.i + 1) W ∧ Upd (fun _ => True) x.w W) ∧ Blk W d 144 (encSpan (nth sp x.i)) ∧ wR.heap.size + 1 < d
theorem LosY.turned {sp : List Span} {n bm gL : Nat} {wR : World} (hg : gL < wR.heap.size) (d : Nat) : Turned (wR.heap.size + 1) (fun x W => LosY sp n bm gL wR x d W) := fun x W W' h hl u =>
  ⟨⟨h.1.1, LosC.turned hg _ _ _ h.1.2.1 hl u, h.1.2.2.trans (u.mono fun _ _ => trivial)⟩, h.2.1.keep u (h.2.1.notLoop hl), h.2.2⟩

theorem Acc.cell {α : Type} {enc : α → List Value} {k : Nat} {e : TypeId} {base : Nat} {w : World} {g cap g' : Nat} {xs : List α} (h : Acc enc k e base w (some ⟨g, 0, none⟩) g' cap xs) : g = g' ∧ ∃ cur : Array Value, w.heap[g']? = some (.cells cur e (0, 0)) := by
  rcases h.at_ with ⟨h1, _⟩ | ⟨h1, _, cur, h3, _⟩
  · cases h1
  · simp at h1; exact ⟨h1, cur, h3⟩

/-- What Losses returns. -/
def LosPost (us : List Sur) (v : Value) (w' : World) : Prop :=
  (100 < us.length ∧ v = .tuple #[.slice none 0 0, .int .i64 0, .int .i64 5]) ∨ (us.length ≤ 100 ∧ (us.any fun x => !okSur x) = true ∧ v = .tuple #[.slice none 0 0, .int .i64 0, .int .i64 2]) ∨
  (us.length ≤ 100 ∧ (us.any fun x => !okSur x) = false ∧ ((∃ i : Nat, (runS us 0 [⟨0, 0, 0⟩]) = ([], (i : Int)) ∧ v = .tuple #[.slice none 0 0, .int .i64 (i : Int), .int .i64 9]) ∨
    ((runS us 0 [⟨0, 0, 0⟩]).2 = -1 ∧ ∃ g M, v = .tuple #[.slice (some ⟨g, 0, none⟩) us.length us.length, .int .i64 0, .int .i64 0] ∧ Sl encBd 2 w' (some ⟨g, 0, none⟩) g 0 M ∧ M.length = us.length ∧ LosR (runS us 0 [⟨0, 0, 0⟩]).1 0 M)))

set_option maxHeartbeats 4000000 in
theorem Losses_c (us : List Sur) (ao : Option Addr) (b o cap : Nat) (w0 : World) (hl : Sl encSur 4 w0 ao b o us) (hll : us.length ≤ 1000000) :
    CallsV Try.prog 28 [.slice ao us.length cap] w0 (fun v w' => LosPost us v w' ∧ Ext w0 w') := by
 have E0 := Upd.refl (fun _ => False) w0
 refine f_enterM (N := 109) Try.func28 rfl rfl rfl ?_
 change WC _ _ _ _ _ _ [(0, .slice ao us.length cap)] _
 refine c_seq fun K1 hK1 => (c_region (t_alloc (cs := [.slice none 0 0]) Try.zeroValue73 rfl rfl rfl (fun bk2 w3 ebk2 sbk2 B4 u5 => ?_)))
 have zu5 := u5.size
 have E6 := E0.next u5 (fun _ _ h => h.elim)
 refine t_assign rfl rfl rfl (t_assign rfl rfl rfl (t_nil' (hK1 _ _ (c_seq fun K7 hK7 => (c_block (c_seq fun K8 hK8 => (c_region (t_move rfl rfl rfl (t_len Try.underlying72 rfl rfl rfl rfl (t_cmp rfl rfl rfl rfl rfl (t_assign rfl rfl rfl (t_nil' (hK8 _ _ (c_condp rfl (fun g14 => ?_) (fun g14 => ?_)))))))))))))))
 ·
  refine c_seq fun K9 hK9 => (c_region (t_store (vs := [.slice none 0 0]) Try.sizeOf73 rfl rfl rfl B4 rfl rfl (Nat.le_of_ble_eq_true rfl) (by simp [Value.oneCell']) (fun w10 sw10 B12 u11 => ?_)))
  have zu11 := u11.size
  have E13 := E6.next u11 (fun i hi (h : i = bk2) => show False by first | omega | assumption)
  have B12 : Blk w10 bk2 73 [.slice none 0 0] := B12
  refine t_assign rfl rfl rfl (t_assign rfl rfl rfl (t_nil' (hK9 _ _ (c_ret ?_))))
  have hmkE := (show Marks w0.heap.size [] w10 from trivial)
  refine f_retMc3 (v1 := .slice none 0 0) (v2 := .int .i64 0) (v3 := .int .i64 5) Try.results28 (.cell (show Marks w0.heap.size [] w10 from trivial) rfl Try.isAgg73 B12 rfl) (.tmp rfl) (.tmp rfl) (show Marks w0.heap.size [] w10 from trivial) (fun w14 u15 omw14 => ?_)
  have zu15 := u15.size
  have E16 := E13.next u15 (fun i hi (h : w0.heap.size ≤ i) => show False by first | omega | assumption)
  exact ⟨.inl ⟨by omega, rfl⟩, E16⟩
 ·
  refine c_seq fun K17 hK17 => (c_region (t_move rfl rfl rfl (t_call (vs := [.slice ao us.length cap, .func (.func 60) #[] #[]]) own59 rfl rfl rfl rfl (containsS_c encSur (fun _ => rfl) (fun x => !okSur x) 60 [] us ao b o cap _ own60 (fun x _ w _ => badSur_c x w) (hl.keep E6 (fun _ h => h)) hll) (fun v18 w19 r21 => ?_))))
  obtain ⟨rfl, u20⟩ := r21
  have zu20 := u20.size
  have E22 := E6.next u20 (fun _ _ h => h.elim)
  refine t_assign rfl rfl rfl (t_nil' (hK17 _ _ (c_cond rfl (fun g18 => ?_) (fun g18 => ?_))))
  ·
   refine c_seq fun K23 hK23 => (c_region ?_)
   have B24 := (B4.keep u20 (fun h => h))
   refine t_store (vs := [.slice none 0 0]) Try.sizeOf73 rfl rfl rfl B24 rfl rfl (Nat.le_of_ble_eq_true rfl) (by simp [Value.oneCell']) (fun w25 sw25 B27 u26 => ?_)
   have zu26 := u26.size
   have E28 := E22.next u26 (fun i hi (h : i = bk2) => show False by first | omega | assumption)
   have B27 : Blk w25 bk2 73 [.slice none 0 0] := B27
   refine t_assign rfl rfl rfl (t_assign rfl rfl rfl (t_nil' (hK23 _ _ (c_ret ?_))))
   have hmkE := (show Marks w0.heap.size [] w25 from trivial)
   refine f_retMc3 (v1 := .slice none 0 0) (v2 := .int .i64 0) (v3 := .int .i64 2) Try.results28 (.cell (show Marks w0.heap.size [] w25 from trivial) rfl Try.isAgg73 B27 rfl) (.tmp rfl) (.tmp rfl) (show Marks w0.heap.size [] w25 from trivial) (fun w29 u30 omw29 => ?_)
   have zu30 := u30.size
   have E31 := E28.next u30 (fun i hi (h : w0.heap.size ≤ i) => show False by first | omega | assumption)
   exact ⟨.inr (.inl ⟨by omega, g18, rfl⟩), E31⟩
  ·
   have hval : ∀ x ∈ us, okSur x = true := fun x hx => by have := List.any_eq_false.1 g18 x hx; simpa using this
   refine c_skip (hK7 _ _ (c_seq fun K32 hK32 => (c_region (t_build (ps := []) (v := .agg #[.int .i64 0, .int .i64 0, .int .i64 0]) rfl rfl ⟨rfl, rfl⟩ (fun w => by kernel_rfl) (t_bslice (ps := [(0, .agg #[.int .i64 0, .int .i64 0, .int .i64 0])]) (cs := [.int .i64 0, .int .i64 0, .int .i64 0]) (e := 144) rfl rfl ⟨rfl, rfl⟩ (fun w => by kernel_rfl) (fun bk33 w34 ebk33 sbk33 B35 u36 => ?_))))))
   have zu36 := u36.size
   have E37 := E22.next u36 (fun _ _ h => h.elim)
   refine t_alloc (cs := [.slice none 0 0]) Try.zeroValue145 rfl rfl rfl (fun bk38 w39 ebk38 sbk38 B40 u41 => ?_)
   have zu41 := u41.size
   have E42 := E37.next u41 (fun _ _ h => h.elim)
   refine t_store (vs := [.slice (some ⟨bk33, 0, none⟩) 1 1]) Try.sizeOf145 rfl rfl rfl B40 rfl rfl (Nat.le_of_ble_eq_true rfl) (by simp [Value.oneCell']) (fun w43 sw43 B45 u44 => ?_)
   have zu44 := u44.size
   have E46 := E42.next u44 (fun i hi (h : i = bk38) => show False by first | omega | assumption)
   have B45 : Blk w43 bk38 145 [.slice (some ⟨bk33, 0, none⟩) 1 1] := B45
   refine t_nil' (hK32 _ _ (c_seq fun K47 hK47 => (c_seq fun K48 hK48 => (c_region (t_move rfl rfl rfl (t_len Try.underlying72 rfl rfl rfl rfl (t_move rfl rfl rfl (t_nil' (hK48 _ _ (c_block ?_))))))))))
   have B49 := ((B35.keep u41 (fun h => h)).keep u44 (show ¬ (bk33 = bk38) by first | omega | assumption))
   have hac0 : Acc encSpan 3 144 bk33 w43 (some ⟨bk33, 0, none⟩) bk33 1 [⟨0, 0, 0⟩] := Acc.ofBlk (xs := [(⟨0, 0, 0⟩ : Span)]) encSpan 3 (fun _ => rfl) B49 (Nat.le_refl _) (by decide)
   have hlS := B49.lt
   refine c_loop (γ := Nat × Option Addr × Nat × Nat × List Span) (fun gg => [(0, .slice ao us.length cap), (2, .pointer (some ⟨bk2, 0, none⟩)), (5, .pointer (some ⟨bk38, 0, none⟩)), (23, .slice ao us.length cap), (24, .int .i64 (us.length : Int)), (25, .int .i64 (gg.1 : Int))]) (fun gg w => Upd (fun i => i = bk38 ∨ i = bk33) w43 w ∧ Blk w bk38 145 [.slice gg.2.1 gg.2.2.2.2.length gg.2.2.2.1] ∧ (gg.1 ≤ us.length) ∧ (SpOk gg.2.2.2.2 gg.1) ∧ (runS us 0 [⟨0, 0, 0⟩] = runS (us.drop gg.1) gg.1 gg.2.2.2.2) ∧ (Acc encSpan 3 144 bk33 w gg.2.1 gg.2.2.1 gg.2.2.2.1 gg.2.2.2.2) ∧ (gg.2.2.1 = bk33 ∨ w43.heap.size ≤ gg.2.2.1)) (fun gg => us.length - gg.1) (0, some ⟨bk33, 0, none⟩, bk33, 1, [⟨0, 0, 0⟩]) ⟨rfl, rfl, rfl, rfl, rfl, rfl, trivial⟩ ⟨Upd.refl _ _, B45, (Nat.zero_le _), SpOk.first, rfl, hac0, (.inl rfl)⟩ ?_
   intro gg w51 hW K50 hK50
   obtain ⟨k, ao2, g2, c2, sp⟩ := gg
   change WC _ _ _ _ _ _ [(0, .slice ao us.length cap), (2, .pointer (some ⟨bk2, 0, none⟩)), (5, .pointer (some ⟨bk38, 0, none⟩)), (23, .slice ao us.length cap), (24, .int .i64 (us.length : Int)), (25, .int .i64 (k : Int))] _
   change Upd (fun i => i = bk38 ∨ i = bk33) w43 w51 ∧ Blk w51 bk38 145 [.slice ao2 sp.length c2] ∧ (k ≤ us.length) ∧ (SpOk sp k) ∧ (runS us 0 [⟨0, 0, 0⟩] = runS (us.drop k) k sp) ∧ (Acc encSpan 3 144 bk33 w51 ao2 g2 c2 sp) ∧ (g2 = bk33 ∨ w43.heap.size ≤ g2) at hW
   obtain ⟨u52, I53, I54, I55, I56, I57, I58⟩ := hW
   have zu52 := u52.size
   have E59 := E46.next u52 (fun i hi (h : i = bk38 ∨ i = bk33) => show False by first | omega | assumption)
   have hk := I54; clear I54
   have hok := I55; clear I55
   have hrun := I56; clear I56
   have hacc := I57; clear I57
   have hg2 := I58; clear I58
   have lt_g2 := hacc.lt
   have hsp1 := hok.pos
   have hsp2 := hok.len
   refine c_seq fun K60 hK60 => (c_region (t_cmp rfl rfl rfl rfl rfl (t_nil' (hK60 _ _ (c_seq fun K61 hK61 => (c_condp rfl (fun g26 => ?_) (fun g26 => ?_)))))))
   ·
    have hxv := hval _ (nth_mem (xs := us) (i := k) (by omega))
    have hxr : ((0 ≤ (nth us k).book ∧ (nth us k).book ≤ 1000000) ∧ (0 ≤ (nth us k).lo ∧ (nth us k).lo ≤ 1000000) ∧ (0 ≤ (nth us k).hi ∧ (nth us k).hi ≤ 1000000)) := by simp only [okSur, decide_eq_true_eq] at hxv; exact hxv.1
    refine c_skip (hK61 _ _ (c_seq fun K62 hK62 => (c_block (c_seq fun K63 hK63 => (c_region (t_move rfl rfl rfl ?_))))))
    have i64 : k < us.length := (by omega)
    refine t_index (j := k) Try.underlying72 Try.sizeOf79 rfl rfl rfl rfl ((hl.keep E59 (fun _ h => h)).addr (by omega)) rfl i64 (t_loadN (vs := [.int .i64 ((nth us k).book), .int .i64 ((nth us k).lo), .int .i64 ((nth us k).hi), .bool ((nth us k).sealed)]) Try.isAgg79 Try.sizeOf79 rfl rfl rfl (((hl.keep E59 (fun _ h => h)).at_ k (by omega)).sub 0 4) rfl (t_alloc (cs := [.int .i64 0, .int .i64 0, .int .i64 0, .bool false]) Try.zeroValue79 rfl rfl rfl (fun bk65 w66 ebk65 sbk65 B67 u68 => ?_)))
    have zu68 := u68.size
    have E69 := E59.next u68 (fun _ _ h => h.elim)
    refine t_assign rfl rfl rfl (t_store (vs := [.int .i64 ((nth us k).book), .int .i64 ((nth us k).lo), .int .i64 ((nth us k).hi), .bool ((nth us k).sealed)]) Try.sizeOf79 rfl rfl rfl B67 rfl rfl (Nat.le_of_ble_eq_true rfl) (by simp [Value.oneCell']) (fun w70 sw70 B72 u71 => ?_))
    have zu71 := u71.size
    have E73 := E69.next u71 (fun i hi (h : i = bk65) => show False by first | omega | assumption)
    have B72 : Blk w70 bk65 79 [.int .i64 ((nth us k).book), .int .i64 ((nth us k).lo), .int .i64 ((nth us k).hi), .bool ((nth us k).sealed)] := B72
    refine t_nil' (hK63 _ _ (c_cut (γ := Option Addr × Nat × Nat × List Span) (fun gg => [(0, .slice ao us.length cap), (2, .pointer (some ⟨bk2, 0, none⟩)), (5, .pointer (some ⟨bk38, 0, none⟩)), (6, .int .i64 (k : Int)), (7, .pointer (some ⟨bk65, 0, none⟩)), (23, .slice ao us.length cap), (24, .int .i64 (us.length : Int)), (25, .int .i64 (k : Int))]) (fun gg w => Upd (fun i => i = bk38 ∨ (i = g2 ∧ bk33 ≤ i)) w70 w ∧ Blk w bk38 145 [.slice gg.1 gg.2.2.2.length gg.2.2.1] ∧ (gg.2.2.2 = openS sp k (nth us k)) ∧ (Acc encSpan 3 144 bk33 w gg.1 gg.2.1 gg.2.2.1 gg.2.2.2) ∧ (gg.2.1 = bk33 ∨ w43.heap.size ≤ gg.2.1)) (fun K75 hK75 => ?_) ?_))
    ·
     refine c_seq fun K78 hK78 => (c_region (t_field Try.underlying79 rfl Try.sizeOf4 (3) rfl rfl rfl rfl (t_load Try.isAgg4 rfl rfl rfl (B72.get rfl) (t_not rfl rfl rfl (t_nil' (hK78 _ _ (c_cond rfl (fun g32 => ?_) (fun g32 => ?_))))))))
     ·
      have B79 := ((I53.keep u68 (fun h => h)).keep u71 (show ¬ (bk38 = bk65) by first | omega | assumption))
      refine WC.weak [(0, .slice ao us.length cap), (2, .pointer (some ⟨bk2, 0, none⟩)), (5, .pointer (some ⟨bk38, 0, none⟩)), (6, .int .i64 (k : Int)), (7, .pointer (some ⟨bk65, 0, none⟩)), (23, .slice ao us.length cap), (24, .int .i64 (us.length : Int)), (25, .int .i64 (k : Int))] ⟨rfl, rfl, rfl, rfl, rfl, rfl, rfl, rfl, trivial⟩ (c_drawnS follows 15 13 [some (33, some (.slice ao2 sp.length c2)), some (34, some (.slice ao2 sp.length c2)), some (35, some (.slice ao2 sp.length c2)), some (36, some (.int .i64 (sp.length : Int))), some (37, some (.int .i64 ((sp.length : Int) - 1))), some (38, some (.pointer (some ⟨g2, 0 + (sp.length - 1) * 3, none⟩))), some (39, some (.pointer (some ⟨g2, 0 + (sp.length - 1) * 3 + 0, none⟩))), some (40, some (.pointer (some ⟨g2, 0 + (sp.length - 1) * 3 + 0 + 0, none⟩))), some (41, some (.int .i64 ((nth sp (sp.length - 1)).lo))), some (42, some (.agg #[.int .i64 ((nth sp (sp.length - 1)).lo), .int .i64 1000000])), some (43, some (.int .i64 (k : Int))), some (44, some (.agg #[.int .i64 ((nth sp (sp.length - 1)).lo), .int .i64 1000000, .int .i64 (k : Int)])), some (45, none)] [[],[],[],[2],[3],[1,4],[5],[6],[7],[8],[],[9,10],[11],[0,12],[13,13,0,1,2,3,4,5,6,7,8,9,10,11,12,13]] (fun D ρ w => Upd (fun _ => False) w70 w ∧ (D 12 = true → ∃ bk82, ρ 12 = .slice (some ⟨bk82, 0, none⟩) 1 1 ∧ w70.heap.size ≤ bk82 ∧ Blk w bk82 144 [.int .i64 ((nth sp (sp.length - 1)).lo), .int .i64 1000000, .int .i64 (k : Int)])) rfl rfl rfl rfl (by kernel_rfl) (by kernel_rfl) (by kernel_rfl) ⟨(Upd.drew _).to, (fun h => by cases h)⟩ ⟨?_, ?_, ?_, ?_, ?_, ?_, ?_, ?_, ?_, ?_, ?_, ?_, ?_, trivial⟩ ?_)
      · exact fun D ρ w87 hcD hnD hdD hW => ⟨_, kf_fr [5], fun Lr => t_load Try.isAgg145 rfl rfl rfl ((B79.keep hW.1 (fun h => h)).get rfl) (dz rfl hW)⟩
      · exact fun D ρ w92 hcD hnD hdD hW => ⟨_, kf_fr [5], fun Lr => t_load Try.isAgg145 rfl rfl rfl ((B79.keep hW.1 (fun h => h)).get rfl) (dz rfl hW)⟩
      · exact fun D ρ w97 hcD hnD hdD hW => ⟨_, kf_fr [5], fun Lr => t_load Try.isAgg145 rfl rfl rfl ((B79.keep hW.1 (fun h => h)).get rfl) (dz rfl hW)⟩
      · exact fun D ρ w102 hcD hnD hdD hW => ⟨_, kf_fr [35], fun Lr => t_len Try.underlying145 rfl rfl rfl rfl (dz rfl hW)⟩
      · exact fun D ρ w106 hcD hnD hdD hW => ⟨_, kf_fr [36], fun Lr => t_ari rfl rfl rfl rfl rfl (by omega) (dz rfl hW)⟩
      · exact fun D ρ w110 hcD hnD hdD hW => ⟨_, kf_fr [34, 37], fun Lr => t_index (j := (sp.length - 1)) Try.underlying145 Try.sizeOf144 rfl rfl rfl rfl (((((hacc.keep u68 (fun _ h => h)).keep u71 (fun hb => show ¬ (g2 = bk65) by first | omega | assumption)).keep hW.1 (fun _ h => h)).sl (fun _ => rfl)).addr (by omega)) (by omega) (by omega) (dz rfl hW)⟩
      · exact pzf Try.underlying144 rfl Try.sizeOf77 (0 + (sp.length - 1) * 3 + 0) rfl rfl rfl rfl rfl fun _ _ _ h => h
      · exact pzf Try.underlying77 rfl Try.sizeOf3 (0 + (sp.length - 1) * 3 + 0 + 0) rfl rfl rfl rfl rfl fun _ _ _ h => h
      · exact fun D ρ w116 hcD hnD hdD hW => ⟨_, kf_fr [40], fun Lr => t_load Try.isAgg3 rfl rfl rfl ((((((hacc.keep u68 (fun _ h => h)).keep u71 (fun hb => show ¬ (g2 = bk65) by first | omega | assumption)).keep hW.1 (fun _ h => h)).sl (fun _ => rfl)).at_ (sp.length - 1) (by omega)) 0 _ rfl) (dz rfl hW)⟩
      · exact fun D ρ w _ _ _ hW => ⟨[(41, .int .i64 ((nth sp (sp.length - 1)).lo))], ⟨fi 8 rfl rfl rfl, trivial⟩, fun Lr => t_build (ps := [(0, .int .i64 ((nth sp (sp.length - 1)).lo)), (1, .int .i64 1000000)]) (v := .agg #[.int .i64 ((nth sp (sp.length - 1)).lo), .int .i64 1000000]) rfl rfl ⟨rfl, rfl⟩ (fun w => by kernel_rfl) (dz rfl hW)⟩
      · exact pz rfl rfl rfl rfl fun _ _ _ h => h
      · exact fun D ρ w _ _ _ hW => ⟨[(42, .agg #[.int .i64 ((nth sp (sp.length - 1)).lo), .int .i64 1000000]), (43, .int .i64 (k : Int))], ⟨fi 9 rfl rfl rfl, fi 10 rfl rfl rfl, trivial⟩, fun Lr => t_build (ps := [(0, .agg #[.int .i64 ((nth sp (sp.length - 1)).lo), .int .i64 1000000]), (1, .int .i64 (k : Int))]) (v := .agg #[.int .i64 ((nth sp (sp.length - 1)).lo), .int .i64 1000000, .int .i64 (k : Int)]) rfl rfl ⟨rfl, rfl⟩ (fun w => by kernel_rfl) (dz rfl hW)⟩
      ·
       intro D ρ w121 hcD hnD hdD hW
       obtain ⟨u122, F123⟩ := hW
       have zu122 := u122.size
       refine ⟨_, kf_fr [44], fun Lr => ?_⟩
       refine t_bslice (ps := [(0, .agg #[.int .i64 ((nth sp (sp.length - 1)).lo), .int .i64 1000000, .int .i64 (k : Int)])]) (cs := [.int .i64 ((nth sp (sp.length - 1)).lo), .int .i64 1000000, .int .i64 (k : Int)]) (e := 144) rfl rfl ⟨rfl, rfl⟩ (fun w => by kernel_rfl) (fun bk125 w126 ebk125 sbk125 B127 u128 => ?_)
       have zu128 := u128.size
       exact dzn rfl ⟨(u122.next u128 (fun _ _ h => h.elim)), (fun _ => ⟨bk125, rfl, (by omega), (by show Blk w126 bk125 144 [.int .i64 ((nth sp (sp.length - 1)).lo), .int .i64 1000000, .int .i64 (k : Int)]; exact B127)⟩)⟩
      intro ρ w130 hW
      obtain ⟨u131, F132⟩ := hW
      have zu131 := u131.size
      obtain ⟨bk82, e134, gebk82, B135⟩ := F132 rfl
      have B135 : Blk w130 bk82 144 [.int .i64 ((nth sp (sp.length - 1)).lo), .int .i64 1000000, .int .i64 (k : Int)] := B135
      have lt_bk82 := B135.lt
      refine t_weak [(0, .slice ao us.length cap), (2, .pointer (some ⟨bk2, 0, none⟩)), (5, .pointer (some ⟨bk38, 0, none⟩)), (6, .int .i64 (k : Int)), (7, .pointer (some ⟨bk65, 0, none⟩)), (23, .slice ao us.length cap), (24, .int .i64 (us.length : Int)), (25, .int .i64 (k : Int)), (33, .slice ao2 sp.length c2), (45, .slice (some ⟨bk82, 0, none⟩) 1 1)] ⟨rfl, rfl, rfl, rfl, rfl, rfl, rfl, rfl, rfl, (look_nd (j := 12) rfl rfl rfl e134), trivial⟩ ?_
      have D136 := (((hacc.keep u68 (fun _ h => h)).keep u71 (fun hb => show ¬ (g2 = bk65) by first | omega | assumption)).keep u131 (fun _ h => h))
      refine t_append (z := .agg #[.int .i64 0, .int .i64 0, .int .i64 0]) (bytes := 24) (k := 3) (base := bk33) (⟨(nth sp (sp.length - 1)).lo, 1000000, (k : Int)⟩ : Span) Try.underlying145 (by kernel_rfl) rfl (by decide) (fun _ => rfl) (by intro x; simp [encSpan, Value.oneCell']) rfl rfl rfl rfl D136 B135 (by omega) (by omega) (by decide) (fun ao137 gb138 cp139 w140 A141 u142 gegb138 lngb138 => ?_)
      have zu142 := u142.size
      have lt_gb138 := A141.lt
      have B144 := ((B79.keep u131 (fun h => h)).keep u142 (show ¬ ((bk38 = g2 ∧ bk33 ≤ bk38)) by first | omega | assumption))
      refine t_store (vs := [.slice ao137 (((sp ++ [(⟨(nth sp (sp.length - 1)).lo, 1000000, (k : Int)⟩ : Span)])).length) cp139]) Try.sizeOf145 rfl rfl rfl B144 rfl rfl (Nat.le_of_ble_eq_true rfl) (by simp [Value.oneCell']) (fun w145 sw145 B147 u146 => ?_)
      have zu146 := u146.size
      have B147 : Blk w145 bk38 145 [.slice ao137 (((sp ++ [(⟨(nth sp (sp.length - 1)).lo, 1000000, (k : Int)⟩ : Span)])).length) cp139] := B147
      refine t_nil' ?_
      have D149 := (A141.keep u146 (fun hb => show ¬ (gb138 = bk38) by first | omega | assumption))
      exact hK75 (ao137, gb138, cp139, (sp ++ [(⟨(nth sp (sp.length - 1)).lo, 1000000, (k : Int)⟩ : Span)])) _ _ ⟨rfl, rfl, rfl, rfl, rfl, rfl, rfl, rfl, trivial⟩ ⟨((((Upd.refl _ _).next u131 (fun _ _ h => h.elim)).next u142 (fun i hi (h : (i = g2 ∧ bk33 ≤ i)) => show i = bk38 ∨ (i = g2 ∧ bk33 ≤ i) by first | omega | assumption)).next u146 (fun i hi (h : i = bk38) => show i = bk38 ∨ (i = g2 ∧ bk33 ≤ i) by first | omega | assumption)), B147, (by unfold openS; rw [if_neg (by simpa using g32)]), D149, (by show gb138 = bk33 ∨ w43.heap.size ≤ gb138; omega)⟩
     ·
      refine c_skip ?_
      have B150 := ((I53.keep u68 (fun h => h)).keep u71 (show ¬ (bk38 = bk65) by first | omega | assumption))
      have D151 := ((hacc.keep u68 (fun _ h => h)).keep u71 (fun hb => show ¬ (g2 = bk65) by first | omega | assumption))
      exact hK75 (ao2, g2, c2, sp) _ _ ⟨rfl, rfl, rfl, rfl, rfl, rfl, rfl, rfl, trivial⟩ ⟨(Upd.refl _ _), B150, (by unfold openS; rw [if_pos (by simpa using g32)]), D151, (by show g2 = bk33 ∨ w43.heap.size ≤ g2; omega)⟩
    ·
     intro gg w76 hW
     obtain ⟨ao3, g3, c3, os⟩ := gg
     change WC _ _ _ _ _ _ [(0, .slice ao us.length cap), (2, .pointer (some ⟨bk2, 0, none⟩)), (5, .pointer (some ⟨bk38, 0, none⟩)), (6, .int .i64 (k : Int)), (7, .pointer (some ⟨bk65, 0, none⟩)), (23, .slice ao us.length cap), (24, .int .i64 (us.length : Int)), (25, .int .i64 (k : Int))] _
     change Upd (fun i => i = bk38 ∨ (i = g2 ∧ bk33 ≤ i)) w70 w76 ∧ Blk w76 bk38 145 [.slice ao3 os.length c3] ∧ (os = openS sp k (nth us k)) ∧ (Acc encSpan 3 144 bk33 w76 ao3 g3 c3 os) ∧ (g3 = bk33 ∨ w43.heap.size ≤ g3) at hW
     obtain ⟨u77, I152, I153, I154, I155⟩ := hW
     have zu77 := u77.size
     have E156 := E73.next u77 (fun i hi (h : i = bk38 ∨ (i = g2 ∧ bk33 ≤ i)) => show False by first | omega | assumption)
     have hos := I153; clear I153
     have hacc3 := I154; clear I154
     have hg3 := I155; clear I155
     have lt_g3 := hacc3.lt
     have ho := hok.open (nth us k)
     rw [← hos] at ho
     have ho1 := ho.pos
     have ho2 := ho.len
     have ho3 := ho.rng (os.length - 1) (by omega)
     have ho4 := ho.up (os.length - 1) (by omega)
     have hspr : (0 ≤ (nth os (os.length - 1)).lo ∧ (nth os (os.length - 1)).lo ≤ 1000000) ∧ (-1000000 ≤ (nth os (os.length - 1)).hi ∧ (nth os (os.length - 1)).hi ≤ 1000000) ∧ (0 ≤ (nth os (os.length - 1)).en ∧ (nth os (os.length - 1)).en ≤ 1000000) := by omega
     refine c_seq fun K157 hK157 => (c_region (t_load Try.isAgg145 rfl rfl rfl (I152.get rfl) (t_load Try.isAgg145 rfl rfl rfl (I152.get rfl) (t_len Try.underlying145 rfl rfl rfl rfl (t_ari rfl rfl rfl rfl rfl (by omega) ?_)))))
     have i158 : (os.length - 1) < os.length := (by omega)
     refine t_index (j := (os.length - 1)) Try.underlying145 Try.sizeOf144 rfl rfl rfl rfl ((hacc3.sl (fun _ => rfl)).addr (by omega)) (by omega) i158 (t_assign rfl rfl rfl (t_nil' (hK157 _ _ (c_seq fun K159 hK159 => (c_region (t_move rfl rfl rfl ?_))))))
     have B160 := (B72.keep u77 (show ¬ (bk65 = bk38 ∨ (bk65 = g2 ∧ bk33 ≤ bk65)) by first | omega | assumption))
     refine t_loadN (vs := [.int .i64 ((nth us k).book), .int .i64 ((nth us k).lo), .int .i64 ((nth us k).hi), .bool ((nth us k).sealed)]) Try.isAgg79 Try.sizeOf79 rfl rfl rfl (B160.at.sub 0 4) rfl (t_call (vs := [.pointer (some ⟨g3, 0 + (os.length - 1) * 3, none⟩), .agg #[.int .i64 ((nth us k).book), .int .i64 ((nth us k).lo), .int .i64 ((nth us k).hi), .bool ((nth us k).sealed)]]) own62 rfl rfl rfl rfl (narrow_c bk33 ao3 g3 c3 os ((os.length - 1)) (nth us k) _ hacc3 (by omega) hxr hspr) (fun v161 w162 r164 => ?_))
     obtain ⟨hnr, u163⟩ := r164
     have zu163 := u163.size
     have E165 := E156.next u163 (fun i hi (h : i = g3) => show False by first | omega | assumption)
     have lt_g3 := hnr.lt
     have hln : (os.set (os.length - 1) (narrowF (nth os (os.length - 1)) (nth us k))).length = os.length := by rw [List.length_set]
     refine t_nil' (hK159 _ _ (c_seq fun K166 hK166 => (WC.weak [(0, .slice ao us.length cap), (2, .pointer (some ⟨bk2, 0, none⟩)), (5, .pointer (some ⟨bk38, 0, none⟩)), (6, .int .i64 (k : Int)), (8, .pointer (some ⟨g3, 0 + (os.length - 1) * 3, none⟩)), (23, .slice ao us.length cap), (24, .int .i64 (us.length : Int)), (25, .int .i64 (k : Int))] ⟨rfl, rfl, rfl, rfl, rfl, rfl, rfl, rfl, trivial⟩ (c_drawn follows 11 [some (55, some (.pointer (some ⟨g3, 0 + (os.length - 1) * 3, none⟩))), some (56, some (.pointer (some ⟨g3, 0 + (os.length - 1) * 3, none⟩))), some (57, some (.pointer (some ⟨g3, 0 + (os.length - 1) * 3 + 0, none⟩))), some (58, some (.pointer (some ⟨g3, 0 + (os.length - 1) * 3 + 0 + 0, none⟩))), some (59, some (.int .i64 ((nth (os.set (os.length - 1) (narrowF (nth os (os.length - 1)) (nth us k))) (os.length - 1)).lo))), some (60, some (.pointer (some ⟨g3, 0 + (os.length - 1) * 3, none⟩))), some (61, some (.pointer (some ⟨g3, 0 + (os.length - 1) * 3, none⟩))), some (62, some (.pointer (some ⟨g3, 0 + (os.length - 1) * 3 + 0, none⟩))), some (63, some (.pointer (some ⟨g3, 0 + (os.length - 1) * 3 + 0 + 1, none⟩))), some (64, some (.int .i64 ((nth (os.set (os.length - 1) (narrowF (nth os (os.length - 1)) (nth us k))) (os.length - 1)).hi))), some (65, some (.bool (decide ((nth (os.set (os.length - 1) (narrowF (nth os (os.length - 1)) (nth us k))) (os.length - 1)).hi < (nth (os.set (os.length - 1) (narrowF (nth os (os.length - 1)) (nth us k))) (os.length - 1)).lo))))] [[],[0],[1],[2],[3],[],[5],[6],[7],[8],[4,9]] (fun _ _ w => Upd (fun _ => False) w162 w) rfl rfl rfl (by kernel_rfl) (by kernel_rfl) (Upd.drew _).to ⟨?_, ?_, ?_, ?_, ?_, ?_, ?_, ?_, ?_, ?_, ?_, trivial⟩ ?_))))
     · exact pz rfl rfl rfl rfl fun _ _ _ h => h
     · exact pz rfl rfl rfl rfl fun _ _ _ h => h
     · exact pzf Try.underlying144 rfl Try.sizeOf77 (0 + (os.length - 1) * 3 + 0) rfl rfl rfl rfl rfl fun _ _ _ h => h
     · exact pzf Try.underlying77 rfl Try.sizeOf3 (0 + (os.length - 1) * 3 + 0 + 0) rfl rfl rfl rfl rfl fun _ _ _ h => h
     ·
      intro D ρ w167 hcD hnD hdD hW
      have zhW := hW.size
      refine ⟨_, kf_fr [58], fun Lr => ?_⟩
      have D170 := (hnr.keep hW (fun _ h => h))
      refine t_load Try.isAgg3 rfl rfl rfl (((D170.sl (fun _ => rfl)).at_ (os.length - 1) (by omega)) 0 _ rfl) ?_
      exact dz rfl hW
     · exact pz rfl rfl rfl rfl fun _ _ _ h => h
     · exact pz rfl rfl rfl rfl fun _ _ _ h => h
     · exact pzf Try.underlying144 rfl Try.sizeOf77 (0 + (os.length - 1) * 3 + 0) rfl rfl rfl rfl rfl fun _ _ _ h => h
     · exact pzf Try.underlying77 rfl Try.sizeOf3 (0 + (os.length - 1) * 3 + 0 + 1) rfl rfl rfl rfl rfl fun _ _ _ h => h
     ·
      intro D ρ w171 hcD hnD hdD hW
      have zhW := hW.size
      refine ⟨_, kf_fr [63], fun Lr => ?_⟩
      have D174 := (hnr.keep hW (fun _ h => h))
      refine t_load Try.isAgg3 rfl rfl rfl (((D174.sl (fun _ => rfl)).at_ (os.length - 1) (by omega)) 1 _ rfl) ?_
      exact dz rfl hW
     · exact pz rfl rfl rfl rfl fun _ _ _ h => h
     intro ρ w175 hW
     have u176 : Upd (fun _ => False) w162 w175 := hW
     have zu176 := u176.size
     have E177 := E165.next u176 (fun _ _ h => h.elim)
     refine QK.weak [(0, .slice ao us.length cap), (2, .pointer (some ⟨bk2, 0, none⟩)), (5, .pointer (some ⟨bk38, 0, none⟩)), (6, .int .i64 (k : Int)), (23, .slice ao us.length cap), (24, .int .i64 (us.length : Int)), (25, .int .i64 (k : Int)), (65, .bool (decide ((nth (os.set (os.length - 1) (narrowF (nth os (os.length - 1)) (nth us k))) (os.length - 1)).hi < (nth (os.set (os.length - 1) (narrowF (nth os (os.length - 1)) (nth us k))) (os.length - 1)).lo)))] ⟨rfl, rfl, rfl, rfl, rfl, rfl, rfl, rfl, trivial⟩ (hK166 _ _ (c_condp rfl (fun g65 => ?_) (fun g65 => ?_)))
     ·
      have hbd : badS (os.set (os.length - 1) (narrowF (nth os (os.length - 1)) (nth us k))) := by unfold badS; rw [show ((os.set (os.length - 1) (narrowF (nth os (os.length - 1)) (nth us k)))).length - 1 = (os.length - 1) from (by simp)]; exact g65
      refine c_seq fun K178 hK178 => (c_region (t_move rfl rfl rfl ?_))
      have B179 := ((((((((((B4.keep u20 (fun h => h)).keep u36 (fun h => h)).keep u41 (fun h => h)).keep u44 (show ¬ (bk2 = bk38) by first | omega | assumption)).keep u52 (show ¬ (bk2 = bk38 ∨ bk2 = bk33) by first | omega | assumption)).keep u68 (fun h => h)).keep u71 (show ¬ (bk2 = bk65) by first | omega | assumption)).keep u77 (show ¬ (bk2 = bk38 ∨ (bk2 = g2 ∧ bk33 ≤ bk2)) by first | omega | assumption)).keep u163 (show ¬ (bk2 = g3) by first | omega | assumption)).keep u176 (fun h => h))
      refine t_store (vs := [.slice none 0 0]) Try.sizeOf73 rfl rfl rfl B179 rfl rfl (Nat.le_of_ble_eq_true rfl) (by simp [Value.oneCell']) (fun w180 sw180 B182 u181 => ?_)
      have zu181 := u181.size
      have E183 := E177.next u181 (fun i hi (h : i = bk2) => show False by first | omega | assumption)
      have B182 : Blk w180 bk2 73 [.slice none 0 0] := B182
      refine t_assign rfl rfl rfl (t_assign rfl rfl rfl (t_nil' (hK178 _ _ (c_ret ?_))))
      have hmkE := (show Marks w0.heap.size [] w180 from trivial)
      refine f_retMc3 (v1 := .slice none 0 0) (v2 := .int .i64 (k : Int)) (v3 := .int .i64 9) Try.results28 (.cell (show Marks w0.heap.size [] w180 from trivial) rfl Try.isAgg73 B182 rfl) (.tmp rfl) (.tmp rfl) (show Marks w0.heap.size [] w180 from trivial) (fun w184 u185 omw184 => ?_)
      have zu185 := u185.size
      have E186 := E183.next u185 (fun i hi (h : w0.heap.size ≤ i) => show False by first | omega | assumption)
      exact ⟨.inr (.inr ⟨by omega, g18, .inl ⟨k, by rw [hrun, drop_nth (show k < us.length by omega), runS, if_pos (by have hst : stepS sp k (nth us k) = (os.set (os.length - 1) (narrowF (nth os (os.length - 1)) (nth us k))) := by { unfold stepS; rw [← hos] }; rw [hst]; exact hbd)], rfl⟩⟩), E186⟩
     ·
      have hnb : ¬ badS (os.set (os.length - 1) (narrowF (nth os (os.length - 1)) (nth us k))) := by unfold badS; rw [show ((os.set (os.length - 1) (narrowF (nth os (os.length - 1)) (nth us k)))).length - 1 = (os.length - 1) from (by simp)]; exact g65
      refine c_skip (hK62 _ _ (c_region (t_ari rfl rfl rfl rfl rfl (by omega) (t_move rfl rfl rfl (t_nil' ?_)))))
      have B187 := ((I152.keep u163 (show ¬ (bk38 = g3) by first | omega | assumption)).keep u176 (fun h => h))
      have B188 : Blk w175 bk38 145 [.slice ao3 (((os.set (os.length - 1) (narrowF (nth os (os.length - 1)) (nth us k)))).length) c3] := by
        have e : ([.slice ao3 os.length c3] : List Value) = [.slice ao3 (((os.set (os.length - 1) (narrowF (nth os (os.length - 1)) (nth us k)))).length) c3] := (by simp)
        rw [← e]; exact B187
      have hst : stepS sp k (nth us k) = (os.set (os.length - 1) (narrowF (nth os (os.length - 1)) (nth us k))) := by unfold stepS; rw [← hos]
      have D189 := (hnr.keep u176 (fun _ h => h))
      exact hK50 (k + 1, ao3, g3, c3, (os.set (os.length - 1) (narrowF (nth os (os.length - 1)) (nth us k)))) _ _ (by show us.length - (k + 1) < us.length - k; omega) ⟨rfl, rfl, rfl, rfl, rfl, rfl, trivial⟩ ⟨(((((u52.next u68 (fun _ _ h => h.elim)).next u71 (fun i hi (h : i = bk65) => show i = bk38 ∨ i = bk33 by first | omega | assumption)).next u77 (fun i hi (h : i = bk38 ∨ (i = g2 ∧ bk33 ≤ i)) => show i = bk38 ∨ i = bk33 by first | omega | assumption)).next u163 (fun i hi (h : i = g3) => show i = bk38 ∨ i = bk33 by first | omega | assumption)).next u176 (fun _ _ h => h.elim)), B188, (by omega), (by have h := hok.step (nth us k) (by rw [hst]; exact hnb); rw [hst] at h; exact h), (by rw [hrun, drop_nth (show k < us.length by omega), runS, if_neg (by rw [hst]; exact hnb), hst]; rfl), D189, (by omega)⟩
   ·
    refine c_exit (hK47 _ _ (c_seq fun K190 hK190 => (c_region (t_move rfl rfl rfl (t_len Try.underlying72 rfl rfl rfl rfl (t_makeN (enc := encBd) (k := 2) (z := .agg #[.int .i64 0, .int .i64 0]) (bytes := 16) (n := us.length) (⟨0, 0⟩ : Bd) Try.underlying73 (by kernel_rfl) rfl (by decide) (fun _ => rfl) (by decide) rfl rfl rfl rfl rfl (by omega) (fun bk191 w192 ebk191 sbk191 A193 u194 => ?_)))))))
    have zu194 := u194.size
    have E195 := E59.next u194 (fun _ _ h => h.elim)
    have lt_bk191 := A193.lt
    have B196 := ((((((B4.keep u20 (fun h => h)).keep u36 (fun h => h)).keep u41 (fun h => h)).keep u44 (show ¬ (bk2 = bk38) by first | omega | assumption)).keep u52 (show ¬ (bk2 = bk38 ∨ bk2 = bk33) by first | omega | assumption)).keep u194 (fun h => h))
    refine t_store (vs := [.slice (some ⟨bk191, 0, none⟩) us.length us.length]) Try.sizeOf73 rfl rfl rfl B196 rfl rfl (Nat.le_of_ble_eq_true rfl) (by simp [Value.oneCell']) (fun w197 sw197 B199 u198 => ?_)
    have zu198 := u198.size
    have E200 := E195.next u198 (fun i hi (h : i = bk2) => show False by first | omega | assumption)
    have B199 : Blk w197 bk2 73 [.slice (some ⟨bk191, 0, none⟩) us.length us.length] := B199
    refine t_nil' (hK190 _ _ (c_seq fun K201 hK201 => (c_region (t_alloc (cs := [.int .i64 0]) Try.zeroValue3 rfl rfl rfl (fun bk202 w203 ebk202 sbk202 B204 u205 => ?_)))))
    have zu205 := u205.size
    have E206 := E200.next u205 (fun _ _ h => h.elim)
    refine t_store (vs := [.int .i64 1000000]) Try.sizeOf3 rfl rfl rfl B204 rfl rfl (Nat.le_of_ble_eq_true rfl) (by simp [Value.oneCell']) (fun w207 sw207 B209 u208 => ?_)
    have zu208 := u208.size
    have E210 := E206.next u208 (fun i hi (h : i = bk202) => show False by first | omega | assumption)
    have B209 : Blk w207 bk202 3 [.int .i64 1000000] := B209
    refine t_nil' (hK201 _ _ (c_seq fun K211 hK211 => (c_seq fun K212 hK212 => (c_region ?_))))
    have B213 := ((((I53.keep u194 (fun h => h)).keep u198 (show ¬ (bk38 = bk2) by first | omega | assumption)).keep u205 (fun h => h)).keep u208 (show ¬ (bk38 = bk202) by first | omega | assumption))
    refine t_load Try.isAgg145 rfl rfl rfl (B213.get rfl) (t_call (vs := [.slice ao2 sp.length c2]) own63 rfl rfl rfl rfl (Backward_c ao2 sp.length c2 _) (fun v214 w215 r217 => ?_))
    obtain ⟨⟨bx, rfl, hgbx, hBx⟩, u216⟩ := r217
    have zu216 := u216.size
    have E218 := E210.next u216 (fun _ _ h => h.elim)
    refine t_nil' (hK212 _ _ (c_block ?_))
    have B219 := (B209.keep u216 (fun h => h))
    have B220 := (B213.keep u216 (fun h => h))
    have B221 := (((B199.keep u205 (fun h => h)).keep u208 (show ¬ (bk2 = bk202) by first | omega | assumption)).keep u216 (fun h => h))
    have D222 := ((((A193.keep u198 (fun hb => show ¬ (bk191 = bk2) by first | omega | assumption)).keep u205 (fun _ h => h)).keep u208 (fun hb => show ¬ (bk191 = bk202) by first | omega | assumption)).keep u216 (fun _ h => h))
    have D223 := (((((hacc.keep u194 (fun _ h => h)).keep u198 (fun hb => show ¬ (g2 = bk2) by first | omega | assumption)).keep u205 (fun _ h => h)).keep u208 (fun hb => show ¬ (g2 = bk202) by first | omega | assumption)).keep u216 (fun _ h => h))
    have hokn : SpOk sp us.length := by rw [← show k = us.length by omega]; exact hok
    have hrun2 : runS us 0 [⟨0, 0, 0⟩] = (sp, -1) := by rw [hrun, List.drop_eq_nil_of_le (by omega)]; rfl
    have hspl := hokn.len
    have hspA := D223
    have hlA := hspA.lt
    have hgL := (D222).lt
    have lw_bk202 := B219.lt
    have lw_bk38 := B220.lt
    have lw_bk2 := B221.lt
    have lw_bx := hBx.lt
    refine WC.weak [(2, .pointer (some ⟨bk2, 0, none⟩)), (5, .pointer (some ⟨bk38, 0, none⟩)), (9, .pointer (some ⟨bk202, 0, none⟩)), (72, .func (.func 82) #[] #[.pointer (some ⟨bx, 0, none⟩)])] ⟨rfl, rfl, rfl, rfl, trivial⟩ (c_rangeY2 (γ := BkE) (δ := Nat) (lb := [.pointer (some ⟨bx, 0, none⟩)]) (enc := (fun x : BkE => .int .i64 (x.i : Int))) (enc' := (fun x : BkE => .agg (encSpan (nth sp x.i)).toArray)) own82 rfl rfl rfl (YBk sp.length w215.heap.size (LosC sp us.length bk202 bk191 w215)) (ZBk (LosC sp us.length bk202 bk191 w215)) ((LosC sp us.length bk202 bk191 w215) 0) (fun x W W' h hl u => ⟨LosC.turned hgL _ _ _ h.1 hl u, h.2.trans (u.mono fun _ _ => trivial)⟩) (fun _ W W' h hl u => LosC.turned hgL _ _ _ h hl u) ?_ (fun x d => [(2, .pointer (some ⟨bk2, 0, none⟩)), (5, .pointer (some ⟨bk38, 0, none⟩)), (9, .pointer (some ⟨bk202, 0, none⟩)), (10, .int .i64 (x.i : Int)), (11, .pointer (some ⟨d, 0, none⟩))]) (LosY sp us.length bk202 bk191 w215) (LosY.turned hgL) ?_ ?_ ?_)
    ·
     intro l1 D R W hD hl hsz hE1 hH hR
     subst hD hl
     refine (back_c sp ao2 g2 0 c2 bx _ _ (LosC sp us.length bk202 bk191 w215) R W (fun k W W' h u => LosC.ext k W W' h u) (fun k W (h : (LosC sp us.length bk202 bk191 w215) k W) => (⟨hBx.keep h.1 (show ¬ (bx = bk202 ∨ bx = bk191 ∨ bx = (w215.heap.size + 1)) by omega), (D223.sl (fun _ => rfl)).keep h.1 (fun _ => show ¬ (g2 = bk202 ∨ g2 = bk191 ∨ g2 = (w215.heap.size + 1)) by omega)⟩ : Blk W bx 145 [.slice ao2 sp.length c2] ∧ Sl encSpan 3 W ao2 g2 0 sp)) hH ?_ hR (by omega) (by omega)).mono fun _ _ h => h
     exact ⟨Ext.to hE1, _, by rw [List.drop_length]; exact B219.keep hE1 id, D222.keep hE1 (fun _ h => h), by simp, LosR.top⟩
    ·
     intro l x W K224 hI hK224
     change WC _ _ _ _ _ _ [(74, .agg #[.int .i64 ((nth sp x.i).lo), .int .i64 ((nth sp x.i).hi), .int .i64 ((nth sp x.i).en)]), (73, .int .i64 (x.i : Int)), (2, .pointer (some ⟨bk2, 0, none⟩)), (5, .pointer (some ⟨bk38, 0, none⟩)), (9, .pointer (some ⟨bk202, 0, none⟩)), (72, .func (.func 82) #[] #[.pointer (some ⟨bx, 0, none⟩)])] _
     have E000 := Upd.refl (fun _ => False) W
     obtain ⟨hi1, hC1, hD1, hU1⟩ := hI
     refine c_seq fun K225 hK225 => (c_region (t_assign rfl rfl rfl (t_nil' (hK225 _ _ (c_region (t_alloc (cs := [.int .i64 0, .int .i64 0, .int .i64 0]) Try.zeroValue144 rfl rfl rfl (fun bk226 w227 ebk226 sbk226 B228 u229 => ?_)))))))
     have zu229 := u229.size
     have E230 := E000.next u229 (fun _ _ h => h.elim)
     refine t_store (vs := [.int .i64 ((nth sp x.i).lo), .int .i64 ((nth sp x.i).hi), .int .i64 ((nth sp x.i).en)]) Try.sizeOf144 rfl rfl rfl B228 rfl rfl (Nat.le_of_ble_eq_true rfl) (by simp [Value.oneCell']) (fun w231 sw231 B233 u232 => ?_)
     have zu232 := u232.size
     have E234 := E230.next u232 (fun i hi (h : i = bk226) => show False by first | omega | assumption)
     have B233 : Blk w231 bk226 144 [.int .i64 ((nth sp x.i).lo), .int .i64 ((nth sp x.i).hi), .int .i64 ((nth sp x.i).en)] := B233
     refine t_nil' ?_
     have hsz1 := E234.size
     exact hK224 bk226 _ _ ⟨rfl, rfl, rfl, rfl, rfl, trivial⟩ E234 ⟨⟨hi1, LosC.ext _ _ _ hC1 E234, hU1.trans (Ext.to E234)⟩, B233, by omega⟩
    ·
     intro l x d w235 hY
     obtain ⟨⟨hi1, hC1, hU1⟩, hBd, hdg⟩ := hY
     have hur := hokn.up _ hi1
     have hrr := hokn.rng _ hi1
     have hl0 := LosR.len0 hokn hi1
     obtain ⟨u236, M, O237, O238, hML, hLos⟩ := hC1
     have zu236 := u236.size
     have lt_bk191 := O238.lt
     change WC _ _ _ _ _ _ [(2, .pointer (some ⟨bk2, 0, none⟩)), (5, .pointer (some ⟨bk38, 0, none⟩)), (9, .pointer (some ⟨bk202, 0, none⟩)), (10, .int .i64 (x.i : Int)), (11, .pointer (some ⟨d, 0, none⟩))] _
     have hcellsR := ((O237).cellsIn.or (O238).cellsIn)
     refine c_block (c_seq fun K240 hK240 => (c_region (t_load Try.isAgg3 rfl rfl rfl (O237.get rfl) (t_field Try.underlying144 rfl Try.sizeOf77 (0) rfl rfl rfl rfl (t_field Try.underlying77 rfl Try.sizeOf3 (1) rfl rfl rfl rfl (t_load Try.isAgg3 rfl rfl rfl (hBd.get rfl) (t_min rfl rfl rfl rfl (t_store (vs := [.int .i64 (min (mostF (sp.drop (x.i + 1))) ((nth sp x.i).hi))]) Try.sizeOf3 rfl rfl rfl O237 rfl rfl (Nat.le_of_ble_eq_true rfl) (by simp [Value.oneCell']) (fun w241 sw241 B243 u242 => ?_)))))))))
     have zu242 := u242.size
     have B243 : Blk w241 bk202 3 [.int .i64 (min (mostF (sp.drop (x.i + 1))) ((nth sp x.i).hi))] := B243
     have B245 : Blk w241 bk202 3 [.int .i64 (mostF (sp.drop x.i))] := by
       have e : ([.int .i64 (min (mostF (sp.drop (x.i + 1))) ((nth sp x.i).hi))] : List Value) = [.int .i64 (mostF (sp.drop x.i))] := (by rw [mostF_drop hi1])
       rw [← e]; exact B243
     refine t_nil' (hK240 _ _ (c_seq fun K246 hK246 => (c_region (t_assign rfl rfl rfl (t_same 12 (v := .int .i64 0) rfl rfl (t_nil' (hK246 _ _ (c_seq fun K247 hK247 => (c_seq fun K248 hK248 => (c_region (t_move rfl rfl rfl (t_cmp rfl rfl rfl rfl rfl (t_nil' (hK248 _ _ (c_condp rfl (fun g81 => ?_) (fun g81 => ?_))))))))))))))))
     ·
      refine c_region ?_
      have B249 := ((B220.keep u236 (show ¬ (bk38 = bk202 ∨ bk38 = bk191 ∨ bk38 = (w215.heap.size + 1)) by first | omega | assumption)).keep u242 (show ¬ (bk38 = bk202) by first | omega | assumption))
      refine t_load Try.isAgg145 rfl rfl rfl (B249.get rfl) (t_move rfl rfl rfl (t_ari rfl rfl rfl rfl rfl (by omega) ?_))
      have D250 := ((D223.keep u236 (fun hb => show ¬ (g2 = bk202 ∨ g2 = bk191 ∨ g2 = (w215.heap.size + 1)) by first | omega | assumption)).keep u242 (fun hb => show ¬ (g2 = bk202) by first | omega | assumption))
      have i251 : (x.i - 1) < sp.length := (by omega)
      refine t_index (j := (x.i - 1)) Try.underlying145 Try.sizeOf144 rfl rfl rfl rfl ((D250.sl (fun _ => rfl)).addr (by omega)) (by omega) i251 (t_field Try.underlying144 rfl Try.sizeOf3 (0 + (x.i - 1) * 3 + 2) rfl rfl rfl rfl (t_load Try.isAgg3 rfl rfl rfl (((D250.sl (fun _ => rfl)).at_ (x.i - 1) (by omega)) 2 _ rfl) (t_assign rfl rfl rfl (t_same 12 (v := .int .i64 (begS sp x.i)) rfl (congrArg (Value.int .i64) (by unfold begS; rw [if_neg (by omega)])) (t_nil' (hK247 _ _ (c_seq fun K252 hK252 => (c_region ?_))))))))
      have B253 := ((B221.keep u236 (show ¬ (bk2 = bk202 ∨ bk2 = bk191 ∨ bk2 = (w215.heap.size + 1)) by first | omega | assumption)).keep u242 (show ¬ (bk2 = bk202) by first | omega | assumption))
      refine t_load Try.isAgg73 rfl rfl rfl (B253.get rfl) (t_move rfl rfl rfl (t_field Try.underlying144 rfl Try.sizeOf3 (2) rfl rfl rfl rfl ?_))
      have B254 := (hBd.keep u242 (show ¬ (d = bk202) by first | omega | assumption))
      refine t_load Try.isAgg3 rfl rfl rfl (B254.get rfl) ?_
      have D255 := (O238.keep u242 (fun hb => show ¬ (bk191 = bk202) by first | omega | assumption))
      refine t_sliceM ((begS sp x.i).toNat) (((nth sp x.i).en - begS sp x.i).toNat) Try.underlying73 Try.sizeOf77 rfl rfl rfl rfl rfl (by omega) (by omega) (by omega) (t_len Try.underlying73 rfl rfl rfl rfl (t_move rfl rfl rfl (t_nil' (hK252 _ _ (c_block (c_loop (γ := Nat × List Bd) (fun gg => [(2, .pointer (some ⟨bk2, 0, none⟩)), (5, .pointer (some ⟨bk38, 0, none⟩)), (9, .pointer (some ⟨bk202, 0, none⟩)), (10, .int .i64 (x.i : Int)), (11, .pointer (some ⟨d, 0, none⟩)), (12, .int .i64 (begS sp x.i)), (75, .int .i64 (mostF (sp.drop (x.i + 1)))), (76, .pointer (some ⟨d, 0, none⟩)), (77, .pointer (some ⟨d, 1, none⟩)), (78, .int .i64 ((nth sp x.i).hi)), (79, .int .i64 (min (mostF (sp.drop (x.i + 1))) ((nth sp x.i).hi))), (80, .int .i64 (x.i : Int)), (81, .bool (decide (0 < (x.i : Int)))), (82, .slice ao2 sp.length c2), (83, .int .i64 (x.i : Int)), (84, .int .i64 ((x.i : Int) - 1)), (85, .pointer (some ⟨g2, 0 + (x.i - 1) * 3, none⟩)), (86, .pointer (some ⟨g2, 0 + (x.i - 1) * 3 + 2, none⟩)), (87, .int .i64 ((nth sp (x.i - 1)).en)), (88, .slice (some ⟨bk191, 0, none⟩) us.length us.length), (89, .int .i64 (begS sp x.i)), (90, .pointer (some ⟨d, 2, none⟩)), (91, .int .i64 ((nth sp x.i).en)), (92, .slice (subAddr (some ⟨bk191, 0, none⟩) us.length ((begS sp x.i).toNat) 2) (((nth sp x.i).en - begS sp x.i).toNat) (us.length - ((begS sp x.i).toNat))), (93, .int .i64 (((nth sp x.i).en - begS sp x.i).toNat : Int)), (94, .int .i64 (gg.1 : Int))]) (fun gg w => Upd (fun i => i = bk191) w241 w ∧ (gg.1 ≤ ((nth sp x.i).en - begS sp x.i).toNat) ∧ (Filled M gg.2 (begS sp x.i).toNat gg.1 ⟨(nth sp x.i).lo, mostF (sp.drop x.i)⟩) ∧ (Acc encBd 2 77 bk191 w (some ⟨bk191, 0, none⟩) bk191 us.length gg.2)) (fun gg => ((nth sp x.i).en - begS sp x.i).toNat - gg.1) (0, M) ⟨rfl, rfl, rfl, rfl, rfl, rfl, rfl, rfl, rfl, rfl, rfl, rfl, rfl, rfl, rfl, rfl, rfl, rfl, rfl, rfl, rfl, rfl, rfl, rfl, rfl, rfl, trivial⟩ ⟨Upd.refl _ _, (Nat.zero_le _), Filled.zero, D255⟩ ?_))))))
      intro gg w257 hW K256 hK256
      obtain ⟨t, M2⟩ := gg
      change WC _ _ _ _ _ _ [(2, .pointer (some ⟨bk2, 0, none⟩)), (5, .pointer (some ⟨bk38, 0, none⟩)), (9, .pointer (some ⟨bk202, 0, none⟩)), (10, .int .i64 (x.i : Int)), (11, .pointer (some ⟨d, 0, none⟩)), (12, .int .i64 (begS sp x.i)), (75, .int .i64 (mostF (sp.drop (x.i + 1)))), (76, .pointer (some ⟨d, 0, none⟩)), (77, .pointer (some ⟨d, 1, none⟩)), (78, .int .i64 ((nth sp x.i).hi)), (79, .int .i64 (min (mostF (sp.drop (x.i + 1))) ((nth sp x.i).hi))), (80, .int .i64 (x.i : Int)), (81, .bool (decide (0 < (x.i : Int)))), (82, .slice ao2 sp.length c2), (83, .int .i64 (x.i : Int)), (84, .int .i64 ((x.i : Int) - 1)), (85, .pointer (some ⟨g2, 0 + (x.i - 1) * 3, none⟩)), (86, .pointer (some ⟨g2, 0 + (x.i - 1) * 3 + 2, none⟩)), (87, .int .i64 ((nth sp (x.i - 1)).en)), (88, .slice (some ⟨bk191, 0, none⟩) us.length us.length), (89, .int .i64 (begS sp x.i)), (90, .pointer (some ⟨d, 2, none⟩)), (91, .int .i64 ((nth sp x.i).en)), (92, .slice (subAddr (some ⟨bk191, 0, none⟩) us.length ((begS sp x.i).toNat) 2) (((nth sp x.i).en - begS sp x.i).toNat) (us.length - ((begS sp x.i).toNat))), (93, .int .i64 (((nth sp x.i).en - begS sp x.i).toNat : Int)), (94, .int .i64 (t : Int))] _
      change Upd (fun i => i = bk191) w241 w257 ∧ (t ≤ ((nth sp x.i).en - begS sp x.i).toNat) ∧ (Filled M M2 (begS sp x.i).toNat t ⟨(nth sp x.i).lo, mostF (sp.drop x.i)⟩) ∧ (Acc encBd 2 77 bk191 w257 (some ⟨bk191, 0, none⟩) bk191 us.length M2) at hW
      obtain ⟨u258, I259, I260, I261⟩ := hW
      have zu258 := u258.size
      have ht := I259; clear I259
      have hfil := I260; clear I260
      have hac2 := I261; clear I261
      have lt_bk191 := hac2.lt
      have hfl := hfil.1
      refine c_seq fun K263 hK263 => (c_region (t_cmp rfl rfl rfl rfl rfl (t_nil' (hK263 _ _ (c_seq fun K264 hK264 => (c_condp rfl (fun g95 => ?_) (fun g95 => ?_)))))))
      ·
       refine c_skip (hK264 _ _ (c_seq fun K265 hK265 => (c_block (c_seq fun K266 hK266 => (c_region (t_move rfl rfl rfl (t_assign rfl rfl rfl (t_nil' (hK266 _ _ (c_region ?_))))))))))
       have B267 := (B253.keep u258 (show ¬ (bk2 = bk191) by first | omega | assumption))
       refine t_load Try.isAgg73 rfl rfl rfl (B267.get rfl) (t_move rfl rfl rfl (t_move rfl rfl rfl (t_ari rfl rfl rfl rfl rfl (by omega) (t_field Try.underlying144 rfl Try.sizeOf77 (0) rfl rfl rfl rfl (t_field Try.underlying77 rfl Try.sizeOf3 (0) rfl rfl rfl rfl ?_)))))
       have B268 := (B254.keep u258 (show ¬ (d = bk191) by first | omega | assumption))
       refine t_load Try.isAgg3 rfl rfl rfl (B268.get rfl) ?_
       have B269 := (B245.keep u258 (show ¬ (bk202 = bk191) by first | omega | assumption))
       refine t_load Try.isAgg3 rfl rfl rfl (B269.get rfl) (t_build (ps := [(0, .int .i64 ((nth sp x.i).lo)), (1, .int .i64 (mostF (sp.drop x.i)))]) (v := .agg #[.int .i64 ((nth sp x.i).lo), .int .i64 (mostF (sp.drop x.i))]) rfl rfl ⟨rfl, rfl⟩ (fun w => by kernel_rfl) ?_)
       have i270 : ((begS sp x.i).toNat + t) < M2.length := (by omega)
       refine t_index (j := ((begS sp x.i).toNat + t)) Try.underlying73 Try.sizeOf77 rfl rfl rfl rfl ((hac2.sl (fun _ => rfl)).addr (by omega)) (by omega) (by omega) (t_storeA (vs := [.int .i64 ((nth sp x.i).lo), .int .i64 (mostF (sp.drop x.i))]) (j := ((begS sp x.i).toNat + t)) (o' := 0) (k := 2) (⟨(nth sp x.i).lo, (mostF (sp.drop x.i))⟩ : Bd) (fun _ => rfl) Try.sizeOf77 rfl rfl (by omega) rfl hac2 (by omega) rfl rfl (by decide) (by simp [Value.oneCell']) rfl (fun w271 R273 u272 => ?_))
       have zu272 := u272.size
       refine t_nil' (hK265 _ _ (c_region (t_ari rfl rfl rfl rfl rfl (by omega) (t_move rfl rfl rfl (t_nil' ?_)))))
       exact hK256 (t + 1, (M2.set ((begS sp x.i).toNat + t) (⟨(nth sp x.i).lo, (mostF (sp.drop x.i))⟩ : Bd))) _ _ (by show ((nth sp x.i).en - begS sp x.i).toNat - (t + 1) < ((nth sp x.i).en - begS sp x.i).toNat - t; omega) ⟨rfl, rfl, rfl, rfl, rfl, rfl, rfl, rfl, rfl, rfl, rfl, rfl, rfl, rfl, rfl, rfl, rfl, rfl, rfl, rfl, rfl, rfl, rfl, rfl, rfl, rfl, trivial⟩ ⟨(u258.next u272 (fun i hi (h : i = bk191) => show i = bk191 by first | omega | assumption)), (by omega), (hfil.next (by omega)), R273⟩
      ·
       refine c_exit ?_
       have hUr := (((Upd.refl (fun i => i = bk202 ∨ (i = bk191 ∧ bk191 ≤ i)) w235).next u242 (fun i hi (h : i = bk202) => show i = bk202 ∨ (i = bk191 ∧ bk191 ≤ i) by first | omega | assumption)).next u258 (fun i hi (h : i = bk191) => show i = bk202 ∨ (i = bk191 ∧ bk191 ≤ i) by first | omega | assumption))
       have B275 := (B245.keep u258 (show ¬ (bk202 = bk191) by first | omega | assumption))
       exact fun a ha => ⟨KeepsFrom.of_upd hUr hcellsR, ⟨⟨((u236.next u242 (fun i hi (h : i = bk202) => show i = bk202 ∨ i = bk191 ∨ i = (w215.heap.size + 1) by first | omega | assumption)).next u258 (fun i hi (h : i = bk191) => show i = bk202 ∨ i = bk191 ∨ i = (w215.heap.size + 1) by first | omega | assumption)), M2, B275, hac2, (by rw [hfil.1]; exact hML), (hLos.next hokn hML hi1 (by rw [← show t = ((nth sp x.i).en - begS sp x.i).toNat by omega]; exact hfil))⟩, (hU1.trans (hUr.mono fun _ _ => trivial))⟩⟩
     ·
      refine c_same 12 (v := .int .i64 (begS sp x.i)) rfl (congrArg (Value.int .i64) (by unfold begS; rw [if_pos (by omega)])) (c_skip (hK247 _ _ (c_seq fun K276 hK276 => (c_region ?_))))
      have B277 := ((B221.keep u236 (show ¬ (bk2 = bk202 ∨ bk2 = bk191 ∨ bk2 = (w215.heap.size + 1)) by first | omega | assumption)).keep u242 (show ¬ (bk2 = bk202) by first | omega | assumption))
      refine t_load Try.isAgg73 rfl rfl rfl (B277.get rfl) (t_move rfl rfl rfl (t_field Try.underlying144 rfl Try.sizeOf3 (2) rfl rfl rfl rfl ?_))
      have B278 := (hBd.keep u242 (show ¬ (d = bk202) by first | omega | assumption))
      refine t_load Try.isAgg3 rfl rfl rfl (B278.get rfl) ?_
      have D279 := (O238.keep u242 (fun hb => show ¬ (bk191 = bk202) by first | omega | assumption))
      refine t_sliceM ((begS sp x.i).toNat) (((nth sp x.i).en - begS sp x.i).toNat) Try.underlying73 Try.sizeOf77 rfl rfl rfl rfl rfl (by omega) (by omega) (by omega) (t_len Try.underlying73 rfl rfl rfl rfl (t_move rfl rfl rfl (t_nil' (hK276 _ _ (c_block (c_loop (γ := Nat × List Bd) (fun gg => [(2, .pointer (some ⟨bk2, 0, none⟩)), (5, .pointer (some ⟨bk38, 0, none⟩)), (9, .pointer (some ⟨bk202, 0, none⟩)), (10, .int .i64 (x.i : Int)), (11, .pointer (some ⟨d, 0, none⟩)), (12, .int .i64 (begS sp x.i)), (75, .int .i64 (mostF (sp.drop (x.i + 1)))), (76, .pointer (some ⟨d, 0, none⟩)), (77, .pointer (some ⟨d, 1, none⟩)), (78, .int .i64 ((nth sp x.i).hi)), (79, .int .i64 (min (mostF (sp.drop (x.i + 1))) ((nth sp x.i).hi))), (80, .int .i64 (x.i : Int)), (81, .bool (decide (0 < (x.i : Int)))), (88, .slice (some ⟨bk191, 0, none⟩) us.length us.length), (89, .int .i64 (begS sp x.i)), (90, .pointer (some ⟨d, 2, none⟩)), (91, .int .i64 ((nth sp x.i).en)), (92, .slice (subAddr (some ⟨bk191, 0, none⟩) us.length ((begS sp x.i).toNat) 2) (((nth sp x.i).en - begS sp x.i).toNat) (us.length - ((begS sp x.i).toNat))), (93, .int .i64 (((nth sp x.i).en - begS sp x.i).toNat : Int)), (94, .int .i64 (gg.1 : Int))]) (fun gg w => Upd (fun i => i = bk191) w241 w ∧ (gg.1 ≤ ((nth sp x.i).en - begS sp x.i).toNat) ∧ (Filled M gg.2 (begS sp x.i).toNat gg.1 ⟨(nth sp x.i).lo, mostF (sp.drop x.i)⟩) ∧ (Acc encBd 2 77 bk191 w (some ⟨bk191, 0, none⟩) bk191 us.length gg.2)) (fun gg => ((nth sp x.i).en - begS sp x.i).toNat - gg.1) (0, M) ⟨rfl, rfl, rfl, rfl, rfl, rfl, rfl, rfl, rfl, rfl, rfl, rfl, rfl, rfl, rfl, rfl, rfl, rfl, rfl, rfl, trivial⟩ ⟨Upd.refl _ _, (Nat.zero_le _), Filled.zero, D279⟩ ?_))))))
      intro gg w281 hW K280 hK280
      obtain ⟨t, M2⟩ := gg
      change WC _ _ _ _ _ _ [(2, .pointer (some ⟨bk2, 0, none⟩)), (5, .pointer (some ⟨bk38, 0, none⟩)), (9, .pointer (some ⟨bk202, 0, none⟩)), (10, .int .i64 (x.i : Int)), (11, .pointer (some ⟨d, 0, none⟩)), (12, .int .i64 (begS sp x.i)), (75, .int .i64 (mostF (sp.drop (x.i + 1)))), (76, .pointer (some ⟨d, 0, none⟩)), (77, .pointer (some ⟨d, 1, none⟩)), (78, .int .i64 ((nth sp x.i).hi)), (79, .int .i64 (min (mostF (sp.drop (x.i + 1))) ((nth sp x.i).hi))), (80, .int .i64 (x.i : Int)), (81, .bool (decide (0 < (x.i : Int)))), (88, .slice (some ⟨bk191, 0, none⟩) us.length us.length), (89, .int .i64 (begS sp x.i)), (90, .pointer (some ⟨d, 2, none⟩)), (91, .int .i64 ((nth sp x.i).en)), (92, .slice (subAddr (some ⟨bk191, 0, none⟩) us.length ((begS sp x.i).toNat) 2) (((nth sp x.i).en - begS sp x.i).toNat) (us.length - ((begS sp x.i).toNat))), (93, .int .i64 (((nth sp x.i).en - begS sp x.i).toNat : Int)), (94, .int .i64 (t : Int))] _
      change Upd (fun i => i = bk191) w241 w281 ∧ (t ≤ ((nth sp x.i).en - begS sp x.i).toNat) ∧ (Filled M M2 (begS sp x.i).toNat t ⟨(nth sp x.i).lo, mostF (sp.drop x.i)⟩) ∧ (Acc encBd 2 77 bk191 w281 (some ⟨bk191, 0, none⟩) bk191 us.length M2) at hW
      obtain ⟨u282, I283, I284, I285⟩ := hW
      have zu282 := u282.size
      have ht := I283; clear I283
      have hfil := I284; clear I284
      have hac2 := I285; clear I285
      have lt_bk191 := hac2.lt
      have hfl := hfil.1
      refine c_seq fun K287 hK287 => (c_region (t_cmp rfl rfl rfl rfl rfl (t_nil' (hK287 _ _ (c_seq fun K288 hK288 => (c_condp rfl (fun g95 => ?_) (fun g95 => ?_)))))))
      ·
       refine c_skip (hK288 _ _ (c_seq fun K289 hK289 => (c_block (c_seq fun K290 hK290 => (c_region (t_move rfl rfl rfl (t_assign rfl rfl rfl (t_nil' (hK290 _ _ (c_region ?_))))))))))
       have B291 := (B277.keep u282 (show ¬ (bk2 = bk191) by first | omega | assumption))
       refine t_load Try.isAgg73 rfl rfl rfl (B291.get rfl) (t_move rfl rfl rfl (t_move rfl rfl rfl (t_ari rfl rfl rfl rfl rfl (by omega) (t_field Try.underlying144 rfl Try.sizeOf77 (0) rfl rfl rfl rfl (t_field Try.underlying77 rfl Try.sizeOf3 (0) rfl rfl rfl rfl ?_)))))
       have B292 := (B278.keep u282 (show ¬ (d = bk191) by first | omega | assumption))
       refine t_load Try.isAgg3 rfl rfl rfl (B292.get rfl) ?_
       have B293 := (B245.keep u282 (show ¬ (bk202 = bk191) by first | omega | assumption))
       refine t_load Try.isAgg3 rfl rfl rfl (B293.get rfl) (t_build (ps := [(0, .int .i64 ((nth sp x.i).lo)), (1, .int .i64 (mostF (sp.drop x.i)))]) (v := .agg #[.int .i64 ((nth sp x.i).lo), .int .i64 (mostF (sp.drop x.i))]) rfl rfl ⟨rfl, rfl⟩ (fun w => by kernel_rfl) ?_)
       have i294 : ((begS sp x.i).toNat + t) < M2.length := (by omega)
       refine t_index (j := ((begS sp x.i).toNat + t)) Try.underlying73 Try.sizeOf77 rfl rfl rfl rfl ((hac2.sl (fun _ => rfl)).addr (by omega)) (by omega) (by omega) (t_storeA (vs := [.int .i64 ((nth sp x.i).lo), .int .i64 (mostF (sp.drop x.i))]) (j := ((begS sp x.i).toNat + t)) (o' := 0) (k := 2) (⟨(nth sp x.i).lo, (mostF (sp.drop x.i))⟩ : Bd) (fun _ => rfl) Try.sizeOf77 rfl rfl (by omega) rfl hac2 (by omega) rfl rfl (by decide) (by simp [Value.oneCell']) rfl (fun w295 R297 u296 => ?_))
       have zu296 := u296.size
       refine t_nil' (hK289 _ _ (c_region (t_ari rfl rfl rfl rfl rfl (by omega) (t_move rfl rfl rfl (t_nil' ?_)))))
       exact hK280 (t + 1, (M2.set ((begS sp x.i).toNat + t) (⟨(nth sp x.i).lo, (mostF (sp.drop x.i))⟩ : Bd))) _ _ (by show ((nth sp x.i).en - begS sp x.i).toNat - (t + 1) < ((nth sp x.i).en - begS sp x.i).toNat - t; omega) ⟨rfl, rfl, rfl, rfl, rfl, rfl, rfl, rfl, rfl, rfl, rfl, rfl, rfl, rfl, rfl, rfl, rfl, rfl, rfl, rfl, trivial⟩ ⟨(u282.next u296 (fun i hi (h : i = bk191) => show i = bk191 by first | omega | assumption)), (by omega), (hfil.next (by omega)), R297⟩
      ·
       refine c_exit ?_
       have hUr := (((Upd.refl (fun i => i = bk202 ∨ (i = bk191 ∧ bk191 ≤ i)) w235).next u242 (fun i hi (h : i = bk202) => show i = bk202 ∨ (i = bk191 ∧ bk191 ≤ i) by first | omega | assumption)).next u282 (fun i hi (h : i = bk191) => show i = bk202 ∨ (i = bk191 ∧ bk191 ≤ i) by first | omega | assumption))
       have B299 := (B245.keep u282 (show ¬ (bk202 = bk191) by first | omega | assumption))
       exact fun a ha => ⟨KeepsFrom.of_upd hUr hcellsR, ⟨⟨((u236.next u242 (fun i hi (h : i = bk202) => show i = bk202 ∨ i = bk191 ∨ i = (w215.heap.size + 1) by first | omega | assumption)).next u282 (fun i hi (h : i = bk191) => show i = bk202 ∨ i = bk191 ∨ i = (w215.heap.size + 1) by first | omega | assumption)), M2, B299, hac2, (by rw [hfil.1]; exact hML), (hLos.next hokn hML hi1 (by rw [← show t = ((nth sp x.i).en - begS sp x.i).toNat by omega]; exact hfil))⟩, (hU1.trans (hUr.mono fun _ _ => trivial))⟩⟩
    ·
     have hmk0 := (show Marks w0.heap.size [] w215 from trivial)
     have hmc0 := (show CellsIn (fun i => i = bk202 ∨ i = bk191 ∨ i = (w215.heap.size + 1)) w215 from fun k hk e => by
       rcases e with rfl | rfl | e
       · exact ⟨_, _, _, B219⟩
       · exact (D222).cellsIn _ hk ⟨rfl, Nat.le_refl _⟩
       · omega)
     intro D301 w300 hD301 hE hdD301
     obtain ⟨u302, M, O303, O304, hML, hLos⟩ := hE
     have zu302 := u302.size
     have E305 := E218.next u302 (fun i hi (h : i = bk202 ∨ i = bk191 ∨ i = (w215.heap.size + 1)) => show False by first | omega | assumption)
     have lt_bk191 := O304.lt
     have mk306 := (hmk0.keep u302 hmc0).push (D := D301) (by omega) hdD301 (fun d hd D' e => Nat.lt_of_lt_of_le (hmk0.lt d hd D' e) hD301)
     refine hK211 _ _ (c_seq fun K307 hK307 => (c_region ?_))
     have B308 := (B221.keep u302 (show ¬ (bk2 = bk202 ∨ bk2 = bk191 ∨ bk2 = (w215.heap.size + 1)) by first | omega | assumption))
     refine t_load Try.isAgg73 rfl rfl rfl (B308.get rfl) (t_store (vs := [.slice (some ⟨bk191, 0, none⟩) us.length us.length]) Try.sizeOf73 rfl rfl rfl B308 rfl rfl (Nat.le_of_ble_eq_true rfl) (by simp [Value.oneCell']) (fun w309 sw309 B311 u310 => ?_))
     have zu310 := u310.size
     have E312 := E305.next u310 (fun i hi (h : i = bk2) => show False by first | omega | assumption)
     have B311 : Blk w309 bk2 73 [.slice (some ⟨bk191, 0, none⟩) us.length us.length] := B311
     refine t_assign rfl rfl rfl (t_assign rfl rfl rfl (t_nil' (hK307 _ _ (c_ret ?_))))
     have D313 := (O304.keep u310 (fun hb => show ¬ (bk191 = bk2) by first | omega | assumption))
     have hlA9 := D313
     have D316 := (mk306.keep u310 (B308).cellsIn)
     have hmkE := D316
     refine f_retMc3 (v1 := .slice (some ⟨bk191, 0, none⟩) us.length us.length) (v2 := .int .i64 0) (v3 := .int .i64 0) Try.results28 (.cell D316 rfl Try.isAgg73 B311 rfl) (.tmp rfl) (.tmp rfl) D316 (fun w314 u315 omw314 => ?_)
     have zu315 := u315.size
     have E317 := E312.next u315 (fun i hi (h : w0.heap.size ≤ i) => show False by first | omega | assumption)
     exact ⟨.inr (.inr ⟨by omega, g18, .inr ⟨by rw [hrun2], bk191, M, rfl, (hlA9.keep omw314 (fun _ h => by obtain ⟨_, cur, hc⟩ := hlA9.cell; exact hmkE.notCells hc h)).sl (fun _ => rfl), hML, by rw [hrun2]; exact hLos⟩⟩), E317⟩

end Go.Proofs.Ytgkkgpenmppjcaa
