/-
  Part 16 of the proof: contracts and plain laws. Conditions: none.
-/
import Derived.Test.YtclinbbghnebaaaGreatDK15
namespace Go.Proofs.YtclinbbghnebaaaGreat
open Go Go.RowKit Go.Proofs.Tryz
set_option maxRecDepth 10000

/-- What a hull more costs in each node, by which arc it comes, and whether something has turned. -/
structure Cst where
  l : List Int
  b : List Int
  ag : Bool
instance : Inhabited Cst := ⟨⟨default, default, default⟩⟩
def rlxC (xs : List Ew) (i : Nat) (s : Cst) : Prop := (0 < (nth xs i).r ∧ nth s.l (nth xs i).f.toNat < 120000000) ∧ nth s.l (nth xs i).f.toNat + (nth xs i).c < nth s.l (nth xs i).t.toNat
instance (xs : List Ew) (i : Nat) (s : Cst) : Decidable (rlxC xs i s) := inferInstanceAs (Decidable (_ ∧ _))
def rlx (xs : List Ew) (i : Nat) (s : Cst) : Cst := if rlxC xs i s then ⟨s.l.set (nth xs i).t.toNat (nth s.l (nth xs i).f.toNat + (nth xs i).c), s.b.set (nth xs i).t.toNat (i : Int), true⟩ else s
def pas (xs : List Ew) (s : Cst) : Nat → Cst
  | 0 => ⟨s.l, s.b, false⟩
  | k + 1 => rlx xs k (pas xs s k)
def okL (l : List Int) : Bool := l.all fun x => decide (-100000000 ≤ x ∧ x ≤ 120000000)
def runC (xs : List Ew) : Nat → Cst → Option Cst
  | 0, _ => none
  | f + 1, s => if okL s.l = true then (if (pas xs s xs.length).ag = true then runC xs f (pas xs s xs.length) else some (pas xs s xs.length)) else none
def srcC (n : Nat) (i : Nat) : Int := if (i : Int) = (n : Int) then 0 else 120000000
def iniC (n : Nat) : Cst := ⟨(List.range (n + 2)).map (srcC n), List.replicate (n + 2) (-1), true⟩
def okArc (n : Nat) (a : Ew) : Prop := (0 ≤ a.f ∧ a.f ≤ (n : Int) + 1) ∧ (0 ≤ a.t ∧ a.t ≤ (n : Int) + 1) ∧ (-1000000 ≤ a.c ∧ a.c ≤ 1000000)
theorem runC_step {xs : List Ew} {f : Nat} {s R : Cst} (h : runC xs f s = some R) : ∃ f', f = f' + 1 ∧ okL s.l = true ∧ ((pas xs s xs.length).ag = true → runC xs f' (pas xs s xs.length) = some R) ∧ ((pas xs s xs.length).ag = false → pas xs s xs.length = R) := by
  cases f with
  | zero => cases h
  | succ f =>
    rw [runC] at h
    by_cases c : okL s.l = true
    · rw [if_pos c] at h
      refine ⟨f, rfl, c, fun q => ?_, fun q => ?_⟩
      · rwa [if_pos q] at h
      · rw [if_neg (by rw [q]; exact Bool.false_ne_true)] at h; exact Option.some.inj h
    · rw [if_neg c] at h; cases h
theorem pas_len (xs : List Ew) (s : Cst) : ∀ k, (pas xs s k).l.length = s.l.length ∧ (pas xs s k).b.length = s.b.length
  | 0 => ⟨rfl, rfl⟩
  | k + 1 => by
    have ih := pas_len xs s k
    show (rlx xs k (pas xs s k)).l.length = _ ∧ (rlx xs k (pas xs s k)).b.length = _
    unfold rlx
    split
    · exact ⟨by rw [List.length_set]; exact ih.1, by rw [List.length_set]; exact ih.2⟩
    · exact ih
theorem pas_bd {xs : List Ew} {n : Nat} (hx : ∀ a ∈ xs, okArc n a) {s : Cst} (hl : s.l.length = n + 2) (h : okL s.l = true) : ∀ k, k ≤ xs.length → ∀ x ∈ (pas xs s k).l, -100000000 - 1000000 * (k : Int) ≤ x ∧ x ≤ 120000000
  | 0, _, x, hm => by
    have h1 := List.all_eq_true.1 h x hm
    rw [decide_eq_true_eq] at h1
    omega
  | k + 1, hk, x, hm => by
    have ih := pas_bd hx hl h k (by omega)
    have hlen := (pas_len xs s k).1
    have ha := hx _ (nth_mem (xs := xs) (i := k) (by omega))
    unfold okArc at ha
    have hm2 : x ∈ (rlx xs k (pas xs s k)).l := hm
    unfold rlx at hm2
    split at hm2
    · rename_i hc
      rcases List.mem_or_eq_of_mem_set hm2 with q | q
      · have := ih x q; omega
      · have h1 := ih _ (nth_mem (xs := (pas xs s k).l) (i := (nth xs k).f.toNat) (by omega))
        have h2 := ih _ (nth_mem (xs := (pas xs s k).l) (i := (nth xs k).t.toNat) (by omega))
        have h3 := hc.2
        rw [q]; omega
    · have := ih x hm2; omega
theorem rep_snoc {α : Type} (a : α) (k : Nat) : List.replicate (k + 1) a = List.replicate k a ++ [a] := List.replicate_succ'
theorem rg9_snoc {α : Type} (f : Nat → α) (k : Nat) : (List.range (k + 1)).map f = (List.range k).map f ++ [f k] := by rw [List.range_succ, List.map_append]; rfl
abbrev cdI : Cod Int Int := ⟨.int .i64, .int .i64⟩
theorem keyI_ok : KeyOK Tryz.prog 3 cdI := KeyOK.int underlying3 _
section
variable {rd : Option Nat} {P : Program} {ops : Array Oper} {Q : Exit → Act → World → Prop} {N : Nat} {ds : List Deferred} {rest : List Oper} {L : Slots} {w : World}
variable {d : Nat} {ty : TypeId} {pos : String} {aft : Array Edge} {g : Option (Nat × Bool)}
/-- m[a] of a map with one key and the value 0. -/
theorem t_look0 {T K E : TypeId} {x i : Operand} {r : Nat} {a k : Int} (hK : KeyOK P K cdI) (hu : P.underlying T = some (.map K E)) (hz : ∀ w, (zeroValue E).run P w = .ok (.int .i64 0) w)
    (hg : grd ops L g = true) (hN : Nat.blt d N = true) (hx : ev L x = some (.map (some r))) (hi : ev L i = some (.int .i64 a)) (hm : MapG cdI [(k, 0)] w r)
    (h : WL rd P ops Q N ds rest ((d, .tuple #[.int .i64 0, .bool (decide (a = k))]) :: L) w) : WL rd P ops Q N ds (⟨some d, .lookup T x i true, ty, pos, aft, g⟩ :: rest) L w := by
  refine t_lookG hK hu hz hg hN hx hi hm (fun h0 => ?_) (fun v h1 => ?_)
  · by_cases e : a = k
    · simp [gtG, fG, e] at h0
    · rwa [decide_eq_false e] at h
  · by_cases e : a = k
    · have : v = 0 := by simp [gtG, fG, e] at h1; exact h1.symm
      rw [this]
      rwa [decide_eq_true e] at h
    · simp [gtG, fG, e] at h1
/-- A map's literal: one key more. -/
theorem t_insG {α β : Type} [DecidableEq α] {cd : Cod α β} {T K E : TypeId} {x i y : Operand} {r : Nat} {a : α} {v : β} {m : List (α × β)} (hK : KeyOK P K cd) (hu : P.underlying T = some (.map K E))
    (hg : grd ops L g = true) (hx : ev L x = some (.map (some r))) (hi : ev L i = some (cd.k a)) (hy : ev L y = some (cd.v v)) (hm : MapG cd m w r)
    (h : ∀ w', w'.heap.size = w.heap.size → MapG cd (upG m a v) w' r → Upd (· = r) w w' → WL rd P ops Q N ds rest L w') : WL rd P ops Q N ds (⟨none, .insert T x i y, ty, pos, aft, g⟩ :: rest) L w := by
  obtain ⟨es, c, h1, h2, h3, h4⟩ := hm
  have hlt := lt_of_block h1
  have hgo : (getObj r).run P w = .ok (.map es c) w := by simp [getObj, Sem.run, h1]
  have hset : ∀ o, (setObj r o).run P w = .ok () { w with heap := w.heap.setIfInBounds r o } := fun o => by simp [setObj, Sem.run, h1]
  have hupd : ∀ o, Upd (· = r) w { w with heap := w.heap.setIfInBounds r o } := fun o => ⟨rfl, rfl, rfl, by simp, fun k hk hn => by simp [Array.getElem?_setIfInBounds_ne (show r ≠ k from fun e => hn e.symm)]⟩
  have hj := fun w => hK.find m es.toList a w h2
  unfold upG at h
  cases hf : fG m a 0 with
  | none =>
    rw [hf] at h hj
    refine WL.effect (w' := { w with heap := w.heap.setIfInBounds r (.map (es.push { key := cd.k a, val := cd.v v, born := c }) (c + 1)) }) hg rfl (fun ac hk => ?_) (h _ (by simp) ⟨_, _, by simp [hlt]; exact ⟨rfl, rfl⟩, ?_, ?_, ?_⟩ (hupd _))
    · simp only [execOp, hk.ev hx, hk.ev hi, hk.ev hy]
      simp [Instr.mapUpdate, run_underlying hu, hgo, hK.check, hj, hset]
    · rw [Array.toList_push, List.map_append, h2, List.map_append]; rfl
    · intro e he
      rw [Array.toList_push] at he
      rcases List.mem_append.1 he with he | he
      · have := h3 e he; omega
      · rw [List.mem_singleton.1 he]; exact Nat.lt_succ_self c
    · rw [Array.toList_push, List.map_append, List.nodup_append]
      refine ⟨h4, by simp, fun x hx y hy e => ?_⟩
      obtain ⟨q, hq, rfl⟩ := List.mem_map.1 hx
      have h5 := h3 q hq
      simp at hy
      omega
  | some p =>
    obtain ⟨j, u⟩ := p
    rw [hf] at h hj
    simp only [] at h
    have hmod : ∀ (q : Nat), (es.toList.modify j fun e => { e with key := cd.k a, val := cd.v v })[q]? = if j = q then (es.toList[q]?).map (fun e => { e with key := cd.k a, val := cd.v v }) else es.toList[q]? := fun q => by
      rw [List.getElem?_modify]
      by_cases hq : j = q
      · simp [hq]
      · simp [hq]
    have hat := fG_at m a 0 hf
    rw [Nat.sub_zero] at hat
    have hjl : j < es.toList.length := by
      have h6 := congrArg List.length h2
      rw [List.length_map, List.length_map] at h6
      have := (List.getElem?_eq_some_iff.1 hat.2).1
      omega
    have hjs : j < es.size := by simpa using hjl
    have hek : (es[j]?).map (·.key) = some (cd.k a) := by
      have h7 : (es.toList.map (fun e => (e.key, e.val)))[j]? = (m.map (kvG cd))[j]? := by rw [h2]
      rw [List.getElem?_map, List.getElem?_map, hat.2] at h7
      rw [Array.getElem?_toList] at h7
      cases he : es[j]? with
      | none => rw [he] at h7; cases h7
      | some e => rw [he] at h7; simp [kvG] at h7; simp [h7.1]
    have hkey : ((es[j]?).map (·.key)).getD (cd.k a) = cd.k a := by rw [hek]; rfl
    have hsame := fun w => hK.stays a w
    have hml : (es.modify j fun e => { e with key := cd.k a, val := cd.v v }).toList = es.toList.modify j fun e => { e with key := cd.k a, val := cd.v v } := by simp
    refine WL.effect (w' := { w with heap := w.heap.setIfInBounds r (.map (es.modify j fun e => { e with key := cd.k a, val := cd.v v }) c) }) hg rfl (fun ac hk => ?_) (h _ (by simp) ⟨_, _, by simp [hlt]; exact ⟨rfl, rfl⟩, ?_, ?_, ?_⟩ (hupd _))
    · simp only [execOp, hk.ev hx, hk.ev hi, hk.ev hy]
      simp only [Instr.mapUpdate]
      simp [run_underlying hu, hgo, hK.check, hj, hset, hkey, hsame]
    · rw [hml]
      refine List.ext_getElem? fun q => ?_
      rw [List.getElem?_map, hmod, List.getElem?_map]
      have h7 : (es.toList.map (fun e => (e.key, e.val)))[q]? = (m.map (kvG cd))[q]? := by rw [h2]
      rw [List.getElem?_map, List.getElem?_map] at h7
      by_cases hq : j = q
      · subst hq
        rw [if_pos rfl, List.getElem?_set_self (by rw [← List.length_map (f := kvG cd), ← h2, List.length_map]; exact hjl), List.getElem?_eq_getElem hjl]; rfl
      · rw [if_neg hq, List.getElem?_set_ne hq]
        cases he : es.toList[q]? with
        | none => rw [he] at h7; simpa using h7
        | some e => rw [he] at h7; simpa using h7
    · intro e he
      rw [hml] at he
      obtain ⟨q, hq⟩ := List.getElem?_of_mem he
      rw [hmod] at hq
      cases h8 : es.toList[q]? with
      | none => rw [h8] at hq; simp at hq
      | some e0 =>
        rw [h8] at hq
        have h9 := h3 e0 (List.mem_of_getElem? h8)
        split at hq
        · simp only [Option.map_some, Option.some.injEq] at hq; subst hq; exact h9
        · simp only [Option.some.injEq] at hq; subst hq; exact h9
    · have hb : (es.modify j fun e => { e with key := cd.k a, val := cd.v v }).toList.map (·.born) = es.toList.map (·.born) := by
        rw [hml]
        refine List.ext_getElem? fun q => ?_
        rw [List.getElem?_map, hmod, List.getElem?_map]
        split
        · cases es.toList[q]? <;> rfl
        · rfl
      rw [hb]; exact h4
end
set_option maxHeartbeats 4000000 in
theorem costs_c (pg : Nat) (n F : Nat) (m : Int) (r : Nat) (xs : List Ew) (ao : Option Addr) (ga oa ca : Nat) (R : Cst) (w0 : World) (hpg : Blk w0 pg 349 [.int .i64 (n : Int), .int .i64 m, .slice ao xs.length ca]) (hxs : Sl encEw 4 w0 ao ga oa xs) (hmp : MapG cdI [((n : Int), 0)] w0 r) (hx : ∀ a ∈ xs, okArc n a) (hxl : xs.length ≤ 10000) (hn : n ≤ 1000) (hR : runC xs F (iniC n) = some R) :
    CallsV Tryz.prog 200 [.pointer (some ⟨pg, 0, none⟩), .map (some r)] w0 (fun v w' => (∃ al gl cl ab gb cb, v = .tuple #[.slice al R.l.length cl, .slice ab R.b.length cb] ∧ Acc encI 1 3 w0.heap.size w' al gl cl R.l ∧ Acc encI 1 3 w0.heap.size w' ab gb cb R.b ∧ (w0.heap.size ≤ gl → gl ≠ gb)) ∧ Ext w0 w') := by
 have hpgl := hpg.lt
 have hmpl := hmp.lt
 refine f_n func200 ?_
 refine go ?_
 refine q_loop (γ := Nat × Option Addr × Nat × Nat × Option Addr × Nat × Nat) (fun gg => [(0, .pointer (some ⟨pg, 0, none⟩)), (1, .map (some r)), (4, .slice gg.2.1 (((List.range gg.1).map (srcC n)).length) gg.2.2.2.1), (5, .slice gg.2.2.2.2.1 ((List.replicate gg.1 (-1 : Int)).length) gg.2.2.2.2.2.2), (16, .int .i64 ((n : Int) + 2)), (17, .int .i64 (gg.1 : Int))]) (fun gg w => Upd (fun i => w0.heap.size ≤ i) w0 w ∧ (gg.1 ≤ n + 2) ∧ (Acc encI 1 3 w0.heap.size w gg.2.1 gg.2.2.1 gg.2.2.2.1 ((List.range gg.1).map (srcC n))) ∧ (Acc encI 1 3 w0.heap.size w gg.2.2.2.2.1 gg.2.2.2.2.2.1 gg.2.2.2.2.2.2 (List.replicate gg.1 (-1 : Int))) ∧ (w0.heap.size ≤ gg.2.2.1 → gg.2.2.1 ≠ gg.2.2.2.2.2.1)) (fun gg => n + 2 - gg.1) (0, none, 0, 0, none, 0, 0) ⟨rfl, rfl, rfl, rfl, rfl, rfl, trivial⟩ ⟨Upd.refl _ _, (Nat.zero_le _), (Acc.nil encI 1 3 w0.heap.size _ (by omega) (by omega)), (Acc.nil encI 1 3 w0.heap.size _ (by omega) (by omega)), (fun h => by have h9 : w0.heap.size ≤ 0 := h; omega)⟩ ?_
 intro gg w5 hW K4 hK4
 obtain ⟨k, al, gl, cl, ab, gb, cb⟩ := gg
 change WC _ _ _ _ _ _ [(0, .pointer (some ⟨pg, 0, none⟩)), (1, .map (some r)), (4, .slice al (((List.range k).map (srcC n)).length) cl), (5, .slice ab ((List.replicate k (-1 : Int)).length) cb), (16, .int .i64 ((n : Int) + 2)), (17, .int .i64 (k : Int))] _
 change Upd (fun i => w0.heap.size ≤ i) w0 w5 ∧ (k ≤ n + 2) ∧ (Acc encI 1 3 w0.heap.size w5 al gl cl ((List.range k).map (srcC n))) ∧ (Acc encI 1 3 w0.heap.size w5 ab gb cb (List.replicate k (-1 : Int))) ∧ (w0.heap.size ≤ gl → gl ≠ gb) at hW
 obtain ⟨u6, I7, I8, I9, I10⟩ := hW
 have zu6 := u6.size
 have hk := I7; clear I7
 have hAl := I8; clear I8
 have hAb := I9; clear I9
 have hne := I10; clear I10
 have lt_gl := hAl.lt
 have lt_gb := hAb.lt
 have hll : ((List.range k).map (srcC n)).length = k := by rw [List.length_map, List.length_range]
 have hbl : (List.replicate k (-1 : Int)).length = k := List.length_replicate
 refine go ?_
 refine q_p (fun g18 => ?_) fun g18 => ?_
 ·
  refine go ?_
  have D17 := (hmp.keep u6 (show ¬ (w0.heap.size ≤ r) by omega))
  refine t_look0 keyI_ok underlying353 zeroValue3 rfl rfl rfl rfl D17 ?_
  iterate 7 refine st1 ?_
  refine x_k1 (fun _ => False) [0, 1, 4, 5, 16, 17] (fun (_x : Unit) => [(7, .int .i64 (srcC n k))]) (fun _x w => True) (fun K22 hK22 => ?_) ?_
  ·
   refine go ?_
   refine q_p (fun g27 => ?_) fun g27 => ?_
   ·
    refine go ?_
    exact hK22 () trivial (hs := by exact ⟨(congrArg (fun z => some (Value.int .i64 z)) (if_neg g27).symm), rfl, rfl, rfl, rfl, rfl, rfl, trivial⟩)
   refine go ?_
   exact hK22 () trivial (hs := by exact ⟨(congrArg (fun z => some (Value.int .i64 z)) (if_pos (Decidable.not_not.1 g27)).symm), rfl, rfl, rfl, rfl, rfl, rfl, trivial⟩)
  rintro _x w23 _ u24 zu24
  refine go ?_
  refine x_l fun bk27 w28 ebk27 sbk27 B29 u30 => ?_
  have D32 := ((hAl.keep u24 (fun _ h => h)).keep u30 (fun _ h => h))
  refine t_append (z := .int .i64 0) (bytes := 8) (k := 1) (base := w0.heap.size) (srcC n k) underlying38 (by kernel_rfl) rfl (by decide) (fun _ => rfl) (by intro x; simp [encI, Value.oneCell']) rfl rfl rfl rfl D32 B29 (by omega) (by omega) (by decide) (fun ao33 gb34 cp35 w36 A37 u38 gegb34 lngb34 => ?_)
  have zu38 := u38.size
  have lt_gb34 := A37.lt
  refine go ?_
  refine x_l fun bk40 w41 ebk40 sbk40 B42 u43 => ?_
  have D45 := ((((hAb.keep u24 (fun _ h => h)).keep u30 (fun _ h => h)).keep u38 (fun hb => show ¬ ((gb = gl ∧ w0.heap.size ≤ gb)) by first | omega | assumption)).keep u43 (fun _ h => h))
  refine t_append (z := .int .i64 0) (bytes := 8) (k := 1) (base := w0.heap.size) (-1) underlying38 (by kernel_rfl) rfl (by decide) (fun _ => rfl) (by intro x; simp [encI, Value.oneCell']) rfl rfl rfl rfl D45 B42 (by omega) (by omega) (by decide) (fun ao46 gb47 cp48 w49 A50 u51 gegb47 lngb47 => ?_)
  have zu51 := u51.size
  have lt_gb47 := A50.lt
  refine go ?_
  have D53 := ((A37.keep u43 (fun _ h => h)).keep u51 (fun hb => show ¬ ((gb34 = gb ∧ w0.heap.size ≤ gb34)) by first | omega | assumption))
  exact hK4 (k + 1, ao33, gb34, cp35, ao46, gb47, cp48) _ _ (by show n + 2 - (k + 1) < n + 2 - k; omega) ⟨rfl, rfl, (by first | (rw [rg9_snoc]; rfl) | rfl), (by first | (rw [rep_snoc]; rfl) | rfl), rfl, rfl, trivial⟩ ⟨(((((u6.nx u24).nx u30).next u38 (fun i hi (h : (i = gl ∧ w0.heap.size ≤ i)) => show w0.heap.size ≤ i by first | omega | assumption)).nx u43).next u51 (fun i hi (h : (i = gb ∧ w0.heap.size ≤ i)) => show w0.heap.size ≤ i by first | omega | assumption)), (by omega), (by rw [rg9_snoc]; exact D53), (by rw [rep_snoc]; exact A50), (fun h => by have h9 : w0.heap.size ≤ gb34 := h; show gb34 ≠ gb47; omega)⟩
 obtain rfl : k = n + 2 := by omega
 have hil : (iniC n).l.length = n + 2 := hll
 have hib : (iniC n).b.length = n + 2 := hbl
 have hgl9 := hAl.ge (by rw [hll]; omega)
 have hgb9 := hAb.ge (by rw [hbl]; omega)
 refine go ?_
 refine x_l2 (fun i => i = gl ∨ i = gb) [0] (fun (s : Cst) (f : Nat) => [(4, .slice al s.l.length cl), (5, .slice ab s.b.length cb), (9, .bool s.ag)]) (fun s f w => (s.l.length = n + 2 ∧ s.b.length = n + 2) ∧ (Acc encI 1 3 w0.heap.size w al gl cl s.l) ∧ (Acc encI 1 3 w0.heap.size w ab gb cb s.b) ∧ ((s.ag = true → runC xs f s = some R) ∧ (s.ag = false → s = R))) (fun s f => f) (iniC n) F ⟨⟨hil, hib⟩, hAl, hAb, ⟨fun _ => hR, fun h => by cases h⟩⟩ ?_
 rintro s f w57 ⟨hlen, hAl, hAb, hrun⟩ u58 zu58 K56 hK56
 have lt_gl := hAl.lt
 have lt_gb := hAb.lt
 refine go ?_
 refine q_b (fun g36 => ?_) fun g36 => ?_
 ·
  obtain ⟨fq, rfl, hokl, hnx⟩ := runC_step (hrun.1 g36)
  obtain ⟨hl1, hl2⟩ := hlen
  refine go ?_
  refine x_l1 (fun i => i = gl ∨ i = gb) [0, 40, 41] (fun (k : Nat) => [(4, .slice al ((pas xs s k).l.length) cl), (5, .slice ab ((pas xs s k).b.length) cb), (9, .bool ((pas xs s k).ag)), (42, .int .i64 (k : Int))]) (fun k w => (k ≤ xs.length) ∧ (Acc encI 1 3 w0.heap.size w al gl cl (pas xs s k).l) ∧ (Acc encI 1 3 w0.heap.size w ab gb cb (pas xs s k).b)) (fun k => xs.length - k) 0 ⟨(Nat.zero_le _), hAl, hAb⟩ ?_
  rintro k w65 ⟨hk, hAl, hAb⟩ u66 zu66 K64 hK64
  have lt_gl := hAl.lt
  have lt_gb := hAb.lt
  have hpl := pas_len xs s k
  refine go ?_
  refine q_p (fun g43 => ?_) fun g43 => ?_
  ·
   have hxk := hx _ (nth_mem (xs := xs) (i := k) (by omega))
   unfold okArc at hxk
   obtain ⟨hp1, hp2⟩ := hpl
   have hb1 := pas_bd hx hl1 hokl k (by omega) _ (nth_mem (xs := (pas xs s k).l) (i := (nth xs k).f.toNat) (by omega))
   refine go ?_
   refine g_i k (hxs.keep ((((Upd.refl (fun _ => False) w0).next u6 (fun i hi (h : w0.heap.size ≤ i) => show False by first | omega | assumption)).next u58 (fun i hi h => by omega)).next u66 (fun i hi h => by omega)) (fun _ h => h)) (fun _ => ?_)
   refine go ?_
   refine x_n fun bk73 w74 ebk73 sbk73 B75 u76 => ?_
   refine go ?_
   refine x_s fun w78 sw78 B80 u79 => ?_
   refine go ?_
   refine c_drawnM follows (fun _ => False) (OTl [0, 2, 4, 6, 8, 10, 12, 14, 16, 18, 20, 22, 24, 26, 28, 30, 32, 34, 36, 38, 40, 42, 44, 46, 48, 50, 52]) (by kernel_rfl) fun w83 u84 => ?_
   have zu84 := u84.size
   refine go ?_
   refine y_splitp 50 rfl (fun g50 => ?_) (fun g50 => ?_)
   ·
    refine go ?_
    have D86 := (((hAl.keep u76 (fun _ h => h)).keep u79 (fun hb => show ¬ (gl = bk73) by first | omega | assumption)).keep u84 (fun _ h => h))
    refine y_i ((nth xs k).f.toNat) (D86.sl (fun _ => rfl)) (fun _ => ?_) (hj := (by omega))
    refine go ?_
    refine y_splitp 58 rfl (fun g58 => ?_) (fun g58 => ?_)
    ·
     refine go ?_
     refine y_i ((nth xs k).f.toNat) (D86.sl (fun _ => rfl)) (fun _ => ?_) (hj := (by omega))
     refine go ?_
     refine y_i ((nth xs k).t.toNat) (D86.sl (fun _ => rfl)) (fun _ => ?_) (hj := (by omega))
     refine go ?_
     refine q_p (fun g73 => ?_) fun g73 => ?_
     ·
      refine c_drawnM follows (fun i => i = gl ∨ i = gb) (OTl [0, 2, 4, 6, 8, 10, 12, 14, 16, 18, 22, 24, 28, 21, 26, 30, 33, 34, 37, 38]) (by kernel_rfl) fun w90 u91 => ?_
      have zu91 := u91.size
      refine go ?_
      have D93 := (D86.keep u91 (fun _ h => h))
      refine y_i ((nth xs k).f.toNat) (D93.sl (fun _ => rfl)) (fun _ => ?_) (hj := (by omega))
      refine go ?_
      refine y_i ((nth xs k).t.toNat) (D93.sl (fun _ => rfl)) (fun _ => ?_) (hj := (by omega))
      refine go ?_
      refine t_storeA (vs := [.int .i64 ((nth ((pas xs s k).l) ((nth xs k).f.toNat)) + ((nth xs k).c))]) (j := (nth xs k).t.toNat) (o' := 0) (k := 1) ((nth ((pas xs s k).l) ((nth xs k).f.toNat)) + ((nth xs k).c)) (fun _ => rfl) sizeOf3 rfl rfl (by omega) rfl D93 (by first | omega | (simp only [List.length_set]; omega)) rfl rfl (by decide) (by simp [Value.oneCell']) rfl (fun w96 R98 u97 => ?_)
      have zu97 := u97.size
      refine go ?_
      have D100 := ((((hAb.keep u76 (fun _ h => h)).keep u79 (fun hb => show ¬ (gb = bk73) by first | omega | assumption)).keep u84 (fun _ h => h)).keep u91 (fun _ h => h))
      refine y_i ((nth xs k).t.toNat) (D100.sl (fun _ => rfl)) (fun _ => ?_) (hj := (by omega))
      refine go ?_
      have D102 := (((((hAb.keep u76 (fun _ h => h)).keep u79 (fun hb => show ¬ (gb = bk73) by first | omega | assumption)).keep u84 (fun _ h => h)).keep u91 (fun _ h => h)).keep u97 (fun hb => show ¬ (gb = gl) by first | omega | assumption))
      refine t_storeA (vs := [.int .i64 (k : Int)]) (j := (nth xs k).t.toNat) (o' := 0) (k := 1) (k : Int) (fun _ => rfl) sizeOf3 rfl rfl (by omega) rfl D102 (by first | omega | (simp only [List.length_set]; omega)) rfl rfl (by decide) (by simp [Value.oneCell']) rfl (fun w103 R105 u104 => ?_)
      have zu104 := u104.size
      refine go ?_
      have hst : pas xs s (k + 1) = ⟨(((pas xs s k).l).set (nth xs k).t.toNat ((nth ((pas xs s k).l) ((nth xs k).f.toNat)) + ((nth xs k).c))), (((pas xs s k).b).set (nth xs k).t.toNat (k : Int)), true⟩ := if_pos ⟨⟨g50, g58⟩, g73⟩
      have D107 := (R98.keep u104 (fun hb => show ¬ (gl = gb) by first | omega | assumption))
      exact hK64 (k + 1) ⟨(by omega), (by rw [hst]; exact D107), (by rw [hst]; exact R105)⟩ (hs := by exact ⟨(by rw [hst]; first | rfl | (rw [List.length_set]; rfl)), (by rw [hst]; first | rfl | (rw [List.length_set]; rfl)), (by rw [hst]; first | rfl | (rw [List.length_set]; rfl)), rfl, rfl, rfl, rfl, trivial⟩)
     refine go ?_
     have hst : pas xs s (k + 1) = (pas xs s k) := if_neg (fun h9 => g73 h9.2)
     have D108 := (((hAb.keep u76 (fun _ h => h)).keep u79 (fun hb => show ¬ (gb = bk73) by first | omega | assumption)).keep u84 (fun _ h => h))
     exact hK64 (k + 1) ⟨(by omega), (by rw [hst]; exact D86), (by rw [hst]; exact D108)⟩ (hs := by exact ⟨(by rw [hst]; first | rfl | (rw [List.length_set]; rfl)), (by rw [hst]; first | rfl | (rw [List.length_set]; rfl)), (by rw [hst]; first | rfl | (rw [List.length_set]; rfl)), rfl, rfl, rfl, rfl, trivial⟩)
    refine go ?_
    have hst : pas xs s (k + 1) = (pas xs s k) := if_neg (fun h9 => g58 h9.1.2)
    have D109 := (((hAb.keep u76 (fun _ h => h)).keep u79 (fun hb => show ¬ (gb = bk73) by first | omega | assumption)).keep u84 (fun _ h => h))
    exact hK64 (k + 1) ⟨(by omega), (by rw [hst]; exact D86), (by rw [hst]; exact D109)⟩ (hs := by exact ⟨(by rw [hst]; first | rfl | (rw [List.length_set]; rfl)), (by rw [hst]; first | rfl | (rw [List.length_set]; rfl)), (by rw [hst]; first | rfl | (rw [List.length_set]; rfl)), rfl, rfl, rfl, rfl, trivial⟩)
   refine go ?_
   have hst : pas xs s (k + 1) = (pas xs s k) := if_neg (fun h9 => g50 h9.1.1)
   have D110 := (((hAl.keep u76 (fun _ h => h)).keep u79 (fun hb => show ¬ (gl = bk73) by first | omega | assumption)).keep u84 (fun _ h => h))
   have D111 := (((hAb.keep u76 (fun _ h => h)).keep u79 (fun hb => show ¬ (gb = bk73) by first | omega | assumption)).keep u84 (fun _ h => h))
   exact hK64 (k + 1) ⟨(by omega), (by rw [hst]; exact D110), (by rw [hst]; exact D111)⟩ (hs := by exact ⟨(by rw [hst]; first | rfl | (rw [List.length_set]; rfl)), (by rw [hst]; first | rfl | (rw [List.length_set]; rfl)), (by rw [hst]; first | rfl | (rw [List.length_set]; rfl)), rfl, rfl, rfl, rfl, trivial⟩)
  refine go ?_
  have hke : xs.length = k := by omega
  have hpl9 := pas_len xs s xs.length
  exact hK56 (pas xs s xs.length) fq ⟨⟨by rw [hpl9.1]; exact hl1, by rw [hpl9.2]; exact hl2⟩, (by rw [hke]; exact hAl), (by rw [hke]; exact hAb), hnx⟩ (hs := by exact ⟨(by rw [hke]; rfl), (by rw [hke]; rfl), (by rw [hke]; rfl), rfl, trivial⟩)
 refine go ?_
 refine f_ret2 (v1 := .slice al s.l.length cl) (v2 := .slice ab s.b.length cb) results200 rfl rfl ?_
 have hsR : s = R := hrun.2 (by simpa using g36)
 rw [← hsR]
 exact ⟨⟨al, gl, cl, ab, gb, cb, rfl, hAl, hAb, hne⟩, u_d⟩

end Go.Proofs.YtclinbbghnebaaaGreat
namespace Go.Proofs.YtclinbbghnebaaaGreat
open Go Go.RowKit Go.Proofs.Tryz
set_option maxRecDepth 10000

/-- The arcs on the way from a node back to the source. -/
def pthP (n : Nat) (xs : List Ew) (b : List Int) : Nat → Int → Option (List Int)
  | 0, _ => none
  | f + 1, v => if v = (n : Int) then some [] else
      if (0 ≤ v ∧ v < (b.length : Int)) ∧ (0 ≤ nth b v.toNat ∧ nth b v.toNat < (xs.length : Int)) then (pthP n xs b f (nth xs (nth b v.toNat).toNat).f).map (nth b v.toNat :: ·) else none
theorem pthP_step {n : Nat} {xs : List Ew} {b : List Int} {f : Nat} {v : Int} {p : List Int} (h : pthP n xs b f v = some p) : ∃ f', f = f' + 1 ∧ (v = (n : Int) → p = []) ∧ (v ≠ (n : Int) → (0 ≤ v ∧ v < (b.length : Int)) ∧ (0 ≤ nth b v.toNat ∧ nth b v.toNat < (xs.length : Int)) ∧ ∃ p', p = nth b v.toNat :: p' ∧ pthP n xs b f' (nth xs (nth b v.toNat).toNat).f = some p') := by
  cases f with
  | zero => cases h
  | succ f =>
    rw [pthP] at h
    refine ⟨f, rfl, fun e => ?_, fun e => ?_⟩
    · rw [if_pos e] at h; exact (Option.some.inj h).symm
    · rw [if_neg e] at h
      split at h
      · rename_i c
        obtain ⟨p', h1, h2⟩ := Option.map_eq_some_iff.1 h
        exact ⟨c.1, c.2, p', h2.symm, h1⟩
      · cases h
/-- An arc that is handed out: what comes behind it, and the world then. -/
structure PkE where
  r : List Int
  x : Int
  w : World
def YPk (D : Nat) (C : List Int → World → Prop) (e : PkE) (W : World) : Prop := C (e.x :: e.r) W ∧ D + 1 < W.heap.size ∧ Upd (fun _ => True) e.w W
def ZPk (C : List Int → World → Prop) (e : PkE) (W : World) : Prop := C e.r W ∧ Upd (fun _ => True) e.w W
/-- What the way back needs of the graph. -/
structure GrM (pg p1 p2 n : Nat) (m : Int) (xs : List Ew) (ao : Option Addr) (ga oa ca : Nat) (ab : Option Addr) (gb ob cb : Nat) (b : List Int) (W : World) : Prop where
  b1 : Blk W p1 288 [.pointer (some ⟨pg, 0, none⟩)]
  b2 : Blk W p2 38 [.slice ab b.length cb]
  sb : Sl encI 1 W ab gb ob b
  gr : Blk W pg 349 [.int .i64 (n : Int), .int .i64 m, .slice ao xs.length ca]
  sx : ∃ ys : List Ew, Sl encEw 4 W ao ga oa ys ∧ ys.length = xs.length ∧ ∀ i, i < xs.length → (nth ys i).f = (nth xs i).f
theorem own245 : Own Tryz.prog 245 := ⟨Tryz.f245, func245, by kernel_rfl, by kernel_rfl⟩
theorem eback_c (pg p1 p2 n : Nat) (m : Int) (xs : List Ew) (ao : Option Addr) (ga oa ca : Nat) (ab : Option Addr) (gb ob cb : Nat) (b : List Int) (F : Nat) (p : List Int) (l D : Nat) (C : List Int → World → Prop) (R : World → Prop) (w0 : World) (hC : ∀ k W W', C k W → Ext W W' → C k W') (hM : ∀ k W, C k W → GrM pg p1 p2 n m xs ao ga oa ca ab gb ob cb b W) (hH : Hands Tryz.prog l D (fun e : PkE => .int .i64 e.x) (YPk D C) (ZPk C) R) (hp : pthP n xs b F ((n : Int) + 1) = some p) (hc : C p w0) (hr : R w0) (hD : D + 1 < w0.heap.size) (hn : n ≤ 1000) (hxl : xs.length ≤ 10000) :
    CallsV Tryz.prog 245 [.func (.yield l) #[] #[], .pointer (some ⟨p1, 0, none⟩), .pointer (some ⟨p2, 0, none⟩)] w0 (fun _ w' => C [] w' ∧ R w') := by
 have hR : ∀ W W', R W → Ext W W' → R W' := fun W W' h u => hH.keep h u (fun h => h) (fun h => h)
 have hm0 := hM _ _ hc
 have hk1 := hm0.b1
 have hk2 := hm0.b2
 have hk3 := hm0.gr
 refine f_n func245 ?_
 refine go ?_
 refine x_c func199 rfl rfl (sink_c pg (n : Int) m ao xs.length ca _ hk3 (by omega)) ?_
 rintro _ w3 ⟨rfl, u4⟩ zu4
 refine go ?_
 refine x_l3 (fun i => (fun _ => True) i) [0, 1, 2] (fun (v : Int) (f : Nat) (r : List Int) => [(4, .int .i64 v)]) (fun v f r w => (pthP n xs b f v = some r) ∧ (C r w) ∧ (R w)) (fun v f r => f) ((n : Int) + 1) F p ⟨hp, (hC _ _ _ hc ((Upd.refl (fun _ => False) _).nx u4)), (hR _ _ hr ((Upd.refl (fun _ => False) _).nx u4))⟩ ?_
 rintro v f r w8 ⟨hpth, hCk, hRk⟩ u9 zu9 K7 hK7
 have hmq11 := hM _ _ hCk
 have h1q11 := hmq11.b1
 have h2q11 := hmq11.b2
 have h3q11 := hmq11.gr
 obtain ⟨ysq11, hyq11, hlq11, hfq11⟩ := hmq11.sx
 obtain ⟨f9, rfl, hend, hstep⟩ := pthP_step hpth
 refine go ?_
 refine x_c func198 rfl rfl (source_c pg (n : Int) m ao xs.length ca _ h3q11) ?_
 rintro _ w15 ⟨rfl, u16⟩ zu16
 refine go ?_
 refine q_p (fun g10 => ?_) fun g10 => ?_
 ·
  obtain ⟨hv9, ha9, r9, hr9, hpt9⟩ := hstep g10
  refine go ?_
  have D21 := (hmq11.sb.keep u16 (fun _ h => h))
  refine g_i v.toNat D21 (fun _ => ?_) (hj := (by omega))
  refine go ?_
  refine t_yield (vs := [.int .i64 (nth b v.toNat)]) rfl rfl rfl rfl (hH.hand ⟨r9, (nth b v.toNat), w15⟩ _ ⟨(by rw [← hr9]; exact (hC _ _ _ hCk ((Upd.refl (fun _ => False) _).nx u16))), (by omega), Upd.refl _ _⟩ (hR _ _ hRk ((Upd.refl (fun _ => False) _).nx u16))) (by rintro e w' ⟨rfl, _⟩; exact ⟨_, rfl⟩) (fun v23 w24 r25 => ?_)
  obtain ⟨hvr25, hrr25⟩ := r25
  injection hvr25 with hvr25
  subst hvr25
  obtain ⟨⟨hzC, u26⟩, hzR⟩ := hrr25
  have zu26 := u26.size
  have hmq28 := hM _ _ hzC
  have h1q28 := hmq28.b1
  have h2q28 := hmq28.b2
  have h3q28 := hmq28.gr
  obtain ⟨ysq28, hyq28, hlq28, hfq28⟩ := hmq28.sx
  refine go ?_
  refine c_drawnM follows (fun _ => False) (OTl [0, 2, 4, 6, 8, 10, 12, 14, 16, 18, 20, 22]) (by kernel_rfl) fun w29 u30 => ?_
  have zu30 := u30.size
  refine go ?_
  have D32 := (hmq28.sb.keep u30 (fun _ h => h))
  refine y_i v.toNat D32 (fun _ => ?_) (hj := (by omega))
  refine go ?_
  have D34 := (hyq28.keep u30 (fun _ h => h))
  refine y_i ((nth b v.toNat).toNat) D34 (fun _ => ?_) (hj := (by omega))
  iterate 2 refine st1 ?_
  refine y_same 21 (v := .int .i64 ((nth xs (nth b v.toNat).toNat).f)) rfl (congrArg (Value.int .i64) (hfq28 _ (by omega))) ?_
  refine go ?_
  exact hK7 ((nth xs (nth b v.toNat).toNat).f) f9 r9 ⟨hpt9, (hC _ _ _ hzC ((Upd.refl (fun _ => False) _).nx u30)), (hR _ _ hzR ((Upd.refl (fun _ => False) _).nx u30))⟩ (hu := (((u9.nx u16).next u26 (fun _ _ _ => trivial)).nx u30))
 refine go ?_
 refine f_ret0 results245 ?_
 have hr0 := hend (Decidable.not_not.1 g10)
 exact ⟨by rw [← hr0]; exact (hC _ _ _ hCk ((Upd.refl (fun _ => False) _).nx u16)), (hR _ _ hRk ((Upd.refl (fun _ => False) _).nx u16))⟩

theorem moves_c (pg n : Nat) (mw : Nat) (xs : List Ew) (ao : Option Addr) (ga oa ca : Nat) (w0 : World) (hpg : Blk w0 pg 349 [.int .i64 (n : Int), .int .i64 (mw : Int), .slice ao xs.length ca]) (hxs : Sl encEw 4 w0 ao ga oa xs) (hxl : xs.length ≤ 10000) (hmw : 2 * mw ≤ xs.length) :
    CallsV Tryz.prog 140 [.pointer (some ⟨pg, 0, none⟩)] w0 (fun v w' => (∃ al gl cl, v = .slice al (List.length ((List.range mw).map (fun i => (nth xs (2 * i + 1)).r))) cl ∧ Acc encI 1 3 w0.heap.size w' al gl cl ((List.range mw).map (fun i => (nth xs (2 * i + 1)).r))) ∧ Ext w0 w') := by
 have hpgl := hpg.lt
 refine f_n func140 ?_
 refine go ?_
 refine x_l4 (fun i => w0.heap.size ≤ i) [0, 7] (fun (k : Nat) (al : Option Addr) (gl : Nat) (cl : Nat) => [(2, .slice al (((List.range k).map (fun i => (nth xs (2 * i + 1)).r)).length) cl), (8, .int .i64 (k : Int))]) (fun k al gl cl w => (k ≤ mw) ∧ (Acc encI 1 3 w0.heap.size w al gl cl ((List.range k).map (fun i => (nth xs (2 * i + 1)).r)))) (fun k al gl cl => mw - k) 0 none 0 0 ⟨(Nat.zero_le _), (Acc.nil encI 1 3 w0.heap.size _ (by omega) (by omega))⟩ ?_
 rintro k al gl cl w5 ⟨hk, hAl⟩ u6 zu6 K4 hK4
 have lt_gl := hAl.lt
 have hll : ((List.range k).map (fun i => (nth xs (2 * i + 1)).r)).length = k := by rw [List.length_map, List.length_range]
 refine go ?_
 refine q_p (fun g9 => ?_) fun g9 => ?_
 ·
  refine go ?_
  refine g_i (2 * k + 1) (hxs.keep ((Upd.refl (fun _ => False) w0).next u6 (fun i hi (h : w0.heap.size ≤ i) => show False by first | omega | assumption)) (fun _ h => h)) (fun _ => ?_) (hj := (by omega))
  refine go ?_
  refine x_l fun bk13 w14 ebk13 sbk13 B15 u16 => ?_
  have D18 := (hAl.keep u16 (fun _ h => h))
  refine t_append (z := .int .i64 0) (bytes := 8) (k := 1) (base := w0.heap.size) ((nth xs (2 * k + 1)).r) underlying38 (by kernel_rfl) rfl (by decide) (fun _ => rfl) (by intro x; simp [encI, Value.oneCell']) rfl rfl rfl rfl D18 B15 (by omega) (by omega) (by decide) (fun ao19 gb20 cp21 w22 A23 u24 gegb20 lngb20 => ?_)
  have zu24 := u24.size
  have lt_gb20 := A23.lt
  refine go ?_
  exact hK4 (k + 1) ao19 gb20 cp21 ⟨(by omega), (by rw [rg9_snoc]; exact A23)⟩ (hs := by exact ⟨(by first | (rw [rg9_snoc]; rfl) | rfl), rfl, rfl, rfl, trivial⟩) (hu := ((u6.nx u16).next u24 (fun i hi (h : (i = gl ∧ w0.heap.size ≤ i)) => show w0.heap.size ≤ i by first | omega | assumption)))
 refine go ?_
 refine f_1 results140 ?_
 obtain rfl : k = mw := by omega
 exact ⟨⟨al, gl, cl, rfl, hAl⟩, u_d⟩

end Go.Proofs.YtclinbbghnebaaaGreat
