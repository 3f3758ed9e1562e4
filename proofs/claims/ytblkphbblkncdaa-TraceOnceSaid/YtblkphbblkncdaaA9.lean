/-
  What an event does to a voyage: plain. Conditions: none.
-/
import Derived.Test.YtblkphbblkncdaaA8
namespace Go.Proofs.Ytblkphbblkncdaa
open Go Go.RowKit

def c2P (n nb : Nat) (x : Ev) : Bool := (useF x && decide ((n : Int) ≤ x.frm)) || (useT x && decide ((n : Int) ≤ x.to)) || (decide (x.kind = 1) && decide ((nb : Int) ≤ x.bill))
def c4P (S : Stt) (x : Ev) : Bool := (useF x && (nth S.sealed (x.frm).toNat != decide (x.kind = 5))) || (useT x && nth S.sealed (x.to).toNat)
def c5P (S : Stt) (x : Ev) : Bool := useF x && decide (sumT (nth S.hold (x.frm).toNat) < x.tons)
def c6P (caps : List Int) (S : Stt) (x : Ev) : Bool := useT x && decide (nth caps (x.to).toNat < sumT (nth S.hold (x.to).toNat) + x.tons) && decide (0 < x.tons)
def chkKP (bs : List Bil) (S : Stt) (x : Ev) : Int :=
  if x.kind = 1 then (if x.port ≠ (nth bs (x.bill).toNat).frm then 9 else if (nth bs (x.bill).toNat).tons < nth S.loaded (x.bill).toNat + x.tons then 6 else 0) else if x.kind = 4 ∧ x.sn ∈ S.seals then 6 else 0
/-- The error of an event that cannot happen. -/
def chkP (bs : List Bil) (caps : List Int) (S : Stt) (mi : Int) (x : Ev) : Int :=
  if x.minute < mi then 9 else if c2P caps.length bs.length x = true then 7 else if c3 x = true then 6 else if c4P S x = true then 9 else if chkKP bs S x ≠ 0 then chkKP bs S x else if c5P S x = true then 3 else if c6P caps S x = true then 8 else 0
def movL (ev : Int) (x : Lay) : Lay := ⟨x.bill, x.tons, x.path ++ [ev]⟩
/-- What an event does. -/
def stepF (S : Stt) (x : Ev) (ev : Int) : Stt :=
  if x.kind = 1 then { S with loaded := S.loaded.set (x.bill).toNat (nth S.loaded (x.bill).toNat + x.tons), hold := S.hold.set (x.to).toNat (nth S.hold (x.to).toNat ++ [⟨x.bill, x.tons, [ev]⟩]) }
  else if x.kind = 2 then { S with hold := (S.hold.set (x.frm).toNat (takV (nth S.hold (x.frm).toNat) x.tons).1).set (x.to).toNat (nth S.hold (x.to).toNat ++ (takV (nth S.hold (x.frm).toNat) x.tons).2.map (movL ev)) }
  else if x.kind = 3 then { S with hold := S.hold.set (x.frm).toNat (takV (nth S.hold (x.frm).toNat) x.tons).1, landed := S.landed ++ [⟨ev, x.port, (takV (nth S.hold (x.frm).toNat) x.tons).2.map (movL ev)⟩] }
  else if x.kind = 4 then { S with sealed := S.sealed.set (x.to).toNat true, seals := S.seals ++ [x.sn] }
  else { S with sealed := S.sealed.set (x.frm).toNat false }
theorem st_hold {V : VG} {i : Nat} (h : i < V.hl.length) : nth V.st.hold i = (nth V.hl i).xs.map HLay.v := nth_map (fun h : HG => h.xs.map HLay.v) h
theorem st_sealed {V : VG} {i : Nat} (h : i < V.hl.length) : nth V.st.sealed i = (nth V.hl i).sealed := nth_map HG.sealed h
theorem c2_rng {n nb : Nat} {x : Ev} (h : c2P n nb x = false) : (useF x = true → x.frm < (n : Int)) ∧ (useT x = true → x.to < (n : Int)) ∧ (x.kind = 1 → x.bill < (nb : Int)) := by
  simp only [c2P, Bool.or_eq_false_iff, Bool.and_eq_false_iff, decide_eq_false_iff_not] at h
  refine ⟨fun h1 => ?_, fun h1 => ?_, fun h1 => ?_⟩
  · rcases h.1.1 with h2 | h2
    · rw [h1] at h2; cases h2
    · omega
  · rcases h.1.2 with h2 | h2
    · rw [h1] at h2; cases h2
    · omega
  · rcases h.2 with h2 | h2 <;> omega
theorem chkV_eq {V : VG} {x : Ev} (hx : okEv x = true) : chkV V x = chkP V.bs (V.hl.map HG.cap) V.st V.mi x := by
  have hr := okEv_rng hx
  have e2 : c2 V x = c2P V.hl.length V.bs.length x := rfl
  have ek : chkK V x = chkKP V.bs V.st x := rfl
  unfold chkV chkP
  rw [e2, ek, List.length_map]
  by_cases h2 : c2P V.hl.length V.bs.length x = true
  · simp [h2]
  · have h3 := c2_rng (by simpa using h2)
    have e4 : c4 V x = c4P V.st x := by
      unfold c4 c4P
      congr 1
      · cases hf : useF x with
        | false => rfl
        | true => rw [st_sealed (by have := h3.1 hf; omega)]
      · cases hf : useT x with
        | false => rfl
        | true => rw [st_sealed (by have := h3.2.1 hf; omega)]
    have e5 : c5 V x = c5P V.st x := by
      unfold c5 c5P
      cases hf : useF x with
      | false => rfl
      | true => rw [st_hold (by have := h3.1 hf; omega)]
    have e6 : c6 V x = c6P (V.hl.map HG.cap) V.st x := by
      unfold c6 c6P
      cases hf : useT x with
      | false => rfl
      | true => rw [st_hold (by have := h3.2.1 hf; omega), nth_map HG.cap (by have := h3.2.1 hf; omega)]
    rw [e4, e5, e6]
/-- An event that can happen. -/
structure EvOk (bs : List Bil) (caps : List Int) (S : Stt) (mi : Int) (x : Ev) : Prop where
  mi : mi ≤ x.minute
  frm : useF x = true → (x.frm).toNat < caps.length
  to : useT x = true → (x.to).toNat < caps.length
  bill : x.kind = 1 → (x.bill).toNat < bs.length
  ne : x.kind = 2 → (x.frm).toNat ≠ (x.to).toNat
  sf : useF x = true → nth S.sealed (x.frm).toNat = decide (x.kind = 5)
  st : useT x = true → nth S.sealed (x.to).toNat = false
  port : x.kind = 1 → x.port = (nth bs (x.bill).toNat).frm
  few : x.kind = 1 → nth S.loaded (x.bill).toNat + x.tons ≤ (nth bs (x.bill).toNat).tons
  sn : x.kind = 4 → x.sn ∉ S.seals
  has : useF x = true → x.tons ≤ sumT (nth S.hold (x.frm).toNat)
  room : useT x = true → 0 < x.tons → sumT (nth S.hold (x.to).toNat) + x.tons ≤ nth caps (x.to).toNat
theorem use2 {x : Ev} (h : x.kind = 2) : useF x = true ∧ useT x = true := by simp [useF, useT, h]
theorem EvOk.of {bs : List Bil} {caps : List Int} {S : Stt} {mi : Int} {x : Ev} (hx : okEv x = true) (h : chkP bs caps S mi x = 0) : EvOk bs caps S mi x := by
  have hr := okEv_rng hx
  unfold chkP at h
  by_cases q1 : x.minute < mi
  · rw [if_pos q1] at h; cases h
  rw [if_neg q1] at h
  by_cases q2 : c2P caps.length bs.length x = true
  · rw [if_pos q2] at h; cases h
  rw [if_neg q2] at h
  have h2 := c2_rng (by simpa using q2)
  by_cases q3 : c3 x = true
  · rw [if_pos q3] at h; cases h
  rw [if_neg q3] at h
  by_cases q4 : c4P S x = true
  · rw [if_pos q4] at h; cases h
  rw [if_neg q4] at h
  by_cases q5 : chkKP bs S x ≠ 0
  · rw [if_pos q5] at h; exact absurd h q5
  rw [if_neg q5] at h
  have q5' : chkKP bs S x = 0 := Decidable.not_not.1 q5
  by_cases q6 : c5P S x = true
  · rw [if_pos q6] at h; cases h
  rw [if_neg q6] at h
  by_cases q7 : c6P caps S x = true
  · rw [if_pos q7] at h; cases h
  have q4' : c4P S x = false := by simpa using q4
  simp only [c4P, Bool.or_eq_false_iff, Bool.and_eq_false_iff] at q4'
  have q6' : c5P S x = false := by simpa using q6
  simp only [c5P, Bool.and_eq_false_iff, decide_eq_false_iff_not] at q6'
  have q7' : c6P caps S x = false := by simpa using q7
  simp only [c6P, Bool.and_eq_false_iff, decide_eq_false_iff_not] at q7'
  have q3' : c3 x = false := by simpa using q3
  simp only [c3, Bool.and_eq_false_iff, decide_eq_false_iff_not] at q3'
  unfold chkKP at q5'
  refine ⟨by omega, fun hf => by have := h2.1 hf; omega, fun hf => by have := h2.2.1 hf; omega, fun hk => by have := h2.2.2 hk; omega, fun hk => ?_, fun hf => ?_, fun hf => ?_, fun hk => ?_, fun hk => ?_, fun hk => ?_, fun hf => ?_, fun hf h0 => ?_⟩
  · obtain ⟨u1, u2⟩ := use2 hk
    rcases q3' with (h3 | h3) | h3
    · rw [u1] at h3; cases h3
    · rw [u2] at h3; cases h3
    · omega
  · rcases q4'.1 with h3 | h3
    · rw [hf] at h3; cases h3
    · simpa [bne] using h3
  · rcases q4'.2 with h3 | h3
    · rw [hf] at h3; cases h3
    · exact h3
  · rw [if_pos hk] at q5'
    by_cases h3 : x.port ≠ (nth bs (x.bill).toNat).frm
    · rw [if_pos h3] at q5'; cases q5'
    · exact Decidable.not_not.1 h3
  · rw [if_pos hk] at q5'
    by_cases h3 : x.port ≠ (nth bs (x.bill).toNat).frm
    · rw [if_pos h3] at q5'; cases q5'
    · rw [if_neg h3] at q5'
      by_cases h4 : (nth bs (x.bill).toNat).tons < nth S.loaded (x.bill).toNat + x.tons
      · rw [if_pos h4] at q5'; cases q5'
      · omega
  · rw [if_neg (by omega)] at q5'
    intro h3
    rw [if_pos ⟨hk, h3⟩] at q5'; cases q5'
  · rcases q6' with h3 | h3
    · rw [hf] at h3; cases h3
    · omega
  · rcases q7' with (h3 | h3) | h3
    · rw [hf] at h3; cases h3
    · omega
    · omega
theorem LayOk.mono {n m : Nat} {x : Lay} (h : LayOk n x) (hm : n ≤ m) : LayOk m x := ⟨h.1, h.2.1, Nat.le_trans h.2.2 hm⟩
theorem sumT_rev (l : List Lay) : sumT l.reverse = sumT l := by
  induction l with
  | nil => rfl
  | cons a l ih => rw [List.reverse_cons, sumT_append, ih]; simp only [sumT]; omega
theorem takR_spec {n : Nat} : ∀ (r : List Lay) (t : Int), (∀ x ∈ r, LayOk n x) → 0 ≤ t → t ≤ sumT r → sumT (takR r t).1 = sumT r - t ∧ sumT (takR r t).2 = t ∧ (∀ x ∈ (takR r t).1, LayOk n x) ∧ (∀ x ∈ (takR r t).2, LayOk n x)
  | [], t, _, h0, h1 => by simp [takR, sumT] at h1 ⊢; omega
  | x :: r, t, h, h0, h1 => by
    have hx := h x (by simp)
    have hr := fun y hy => h y (List.mem_cons_of_mem x hy)
    simp only [sumT] at h1
    simp only [takR]
    split
    · rename_i q; refine ⟨by simp only [sumT]; omega, by simp only [sumT]; omega, h, fun y hy => by cases hy⟩
    · split
      · rename_i q1 q2
        unfold LayOk at hx
        refine ⟨by simp only [sumT]; omega, by simp only [sumT]; omega, fun y hy => ?_, fun y hy => ?_⟩
        · rcases List.mem_cons.1 hy with rfl | hy
          · exact ⟨by show 1 ≤ x.tons - t; omega, by show x.tons - t ≤ 1000000; omega, hx.2.2⟩
          · exact hr y hy
        · have : y = ⟨x.bill, t, x.path⟩ := by simpa using hy
          subst this
          exact ⟨by show 1 ≤ t; omega, by show t ≤ 1000000; omega, hx.2.2⟩
      · rename_i q1 q2
        have ih := takR_spec r (t - x.tons) hr (by omega) (by omega)
        refine ⟨by rw [ih.1]; simp only [sumT]; omega, by simp only [sumT]; rw [ih.2.1]; omega, ih.2.2.1, fun y hy => ?_⟩
        rcases List.mem_cons.1 hy with rfl | hy
        · exact hx
        · exact ih.2.2.2 y hy
theorem takV_spec {n : Nat} {l : List Lay} {t : Int} (h : ∀ x ∈ l, LayOk n x) (h0 : 0 ≤ t) (h1 : t ≤ sumT l) : sumT (takV l t).1 = sumT l - t ∧ sumT (takV l t).2 = t ∧ (∀ x ∈ (takV l t).1, LayOk n x) ∧ (∀ x ∈ (takV l t).2, LayOk n x) := by
  have := takR_spec l.reverse t (fun x hx => h x (List.mem_reverse.1 hx)) h0 (by rw [sumT_rev]; exact h1)
  rw [sumT_rev] at this
  exact ⟨by show sumT (takR l.reverse t).1.reverse = _; rw [sumT_rev]; exact this.1, this.2.1, fun x hx => this.2.2.1 x (List.mem_reverse.1 hx), this.2.2.2⟩
theorem sumT_mov (ev : Int) (l : List Lay) : sumT (l.map (movL ev)) = sumT l := by
  induction l with
  | nil => rfl
  | cons a l ih => simp only [List.map_cons, sumT, ih]; rfl
theorem movL_ok {n : Nat} {ev : Int} {l : List Lay} (h : ∀ x ∈ l, LayOk n x) : ∀ x ∈ l.map (movL ev), LayOk (n + 1) x := fun y hy => by
  obtain ⟨x, hx, rfl⟩ := List.mem_map.1 hy
  have := h x hx
  refine ⟨this.1, this.2.1, ?_⟩
  show (x.path ++ [ev]).length ≤ n + 1
  rw [List.length_append, List.length_singleton]
  have := this.2.2; omega
theorem nth_oor {α : Type} [Inhabited α] {xs : List α} {i : Nat} (h : xs.length ≤ i) : nth xs i = default := by simp [nth, h]
theorem nth_memD {α : Type} [Inhabited α] {xs : List α} {i : Nat} (P : α → Prop) (h : ∀ x ∈ xs, P x) (hd : P default) : P (nth xs i) := by
  rcases Nat.lt_or_ge i xs.length with h1 | h1
  · exact h _ (nth_mem h1)
  · rw [nth_oor h1]; exact hd
/-- Numbers stay within their bounds. -/
theorem StOk.step {bs : List Bil} {caps : List Int} {n : Nat} {S : Stt} {mi : Int} {x : Ev} (h : StOk bs caps n S) (hx : okEv x = true) (hc : EvOk bs caps S mi x) : StOk bs caps (n + 1) (stepF S x n) := by
  have hr := okEv_rng hx
  have up : ∀ l ∈ S.hold, ∀ y ∈ l, LayOk (n + 1) y := fun l hl y hy => (h.tons l hl y hy).mono (Nat.le_succ n)
  have upl : ∀ l ∈ S.landed, (∀ y ∈ l.parts, LayOk (n + 1) y) ∧ sumT l.parts ≤ 1000000 ∧ (0 ≤ l.ev ∧ l.ev < ((n + 1 : Nat) : Int)) ∧ (0 ≤ l.port ∧ l.port ≤ 99) := fun l hl => by
    have := h.ldt l hl
    exact ⟨fun y hy => (this.1 y hy).mono (Nat.le_succ n), this.2.1, by omega, this.2.2.2⟩
  have hh : ∀ i, ∀ y ∈ nth S.hold i, LayOk n y := fun i => nth_memD (fun l => ∀ y ∈ l, LayOk n y) h.tons (fun y hy => by cases hy)
  have setcap : ∀ (L : List (List Lay)) (i : Nat) (l : List Lay), L.length = caps.length → (∀ j, j < caps.length → (0 ≤ nth caps j ∧ nth caps j ≤ 1000000) ∧ sumT (nth L j) ≤ nth caps j) → sumT l ≤ nth caps i → ∀ j, j < caps.length → (0 ≤ nth caps j ∧ nth caps j ≤ 1000000) ∧ sumT (nth (L.set i l) j) ≤ nth caps j := fun L i l hL hc hl j hj => by
    by_cases e : j = i
    · subst e; rw [nth_set_eq (by omega)]; exact ⟨(hc j hj).1, hl⟩
    · rw [nth_set_ne e]; exact hc j hj
  have settons : ∀ (L : List (List Lay)) (i : Nat) (l : List Lay), (∀ q ∈ L, ∀ y ∈ q, LayOk (n + 1) y) → (∀ y ∈ l, LayOk (n + 1) y) → ∀ q ∈ L.set i l, ∀ y ∈ q, LayOk (n + 1) y := fun L i l hL hl q hq => by
    rcases List.mem_or_eq_of_mem_set hq with h1 | h1
    · exact hL q h1
    · rw [h1]; exact hl
  unfold stepF
  split
  · rename_i hk
    have uT : useT x = true := by simp [useT, hk]
    have ht := hr.2.2.2.2.2.2.1 (by omega)
    have hrm := hc.room uT (by omega)
    have hb := hc.bill hk
    refine ⟨by simp [h.hn], h.h20, h.sn, h.bn, by simp [h.lsn], h.bil, setcap _ _ _ h.hn h.cap (by rw [sumT_snoc]; exact hrm), settons _ _ _ up (fun y hy => ?_), by have := h.ldn; show S.landed.length ≤ n + 1; omega, upl, fun i hi => ?_⟩
    · rcases List.mem_append.1 hy with hy | hy
      · exact (hh _ y hy).mono (Nat.le_succ n)
      · have : y = ⟨x.bill, x.tons, [(n : Int)]⟩ := by simpa using hy
        subst this
        exact ⟨ht, hr.2.2.2.2.1.2, by show [(n : Int)].length ≤ n + 1; simp⟩
    · simp only [List.length_set] at hi
      show 0 ≤ nth (S.loaded.set (x.bill).toNat _) i ∧ nth (S.loaded.set (x.bill).toNat _) i ≤ _
      by_cases e : i = (x.bill).toNat
      · subst e
        rw [nth_set_eq hi]
        have := h.lsr _ hi
        have := hc.few hk
        omega
      · rw [nth_set_ne e]; exact h.lsr i hi
  · split
    · rename_i _ hk
      obtain ⟨uF, uT⟩ := use2 hk
      have ht := hr.2.2.2.2.2.2.1 (by omega)
      have hrm := hc.room uT (by omega)
      have hhas := hc.has uF
      have hfr := hc.frm uF
      have sp := takV_spec (hh (x.frm).toNat) (by omega) hhas
      have c0 := h.cap (x.frm).toNat hfr
      refine ⟨by simp [h.hn], h.h20, h.sn, h.bn, h.lsn, h.bil, setcap _ _ _ (by simp [h.hn]) (setcap _ _ _ h.hn h.cap (by rw [sp.1]; omega)) (by rw [sumT_append, sumT_mov, sp.2.1]; exact hrm), settons _ _ _ (settons _ _ _ up (fun y hy => (sp.2.2.1 y hy).mono (Nat.le_succ n))) (fun y hy => ?_), by have := h.ldn; show S.landed.length ≤ n + 1; omega, upl, h.lsr⟩
      rcases List.mem_append.1 hy with hy | hy
      · exact (hh _ y hy).mono (Nat.le_succ n)
      · exact movL_ok sp.2.2.2 y hy
    · split
      · rename_i _ _ hk
        have uF : useF x = true := by simp [useF, hk]
        have hhas := hc.has uF
        have hfr := hc.frm uF
        have sp := takV_spec (hh (x.frm).toNat) (by omega) hhas
        have c0 := h.cap (x.frm).toNat hfr
        have hpt := hr.2.2.2.2.2.2.2.2 hk
        refine ⟨by simp [h.hn], h.h20, h.sn, h.bn, h.lsn, h.bil, setcap _ _ _ h.hn h.cap (by rw [sp.1]; omega), settons _ _ _ up (fun y hy => (sp.2.2.1 y hy).mono (Nat.le_succ n)), by have := h.ldn; simp; omega, fun l hl => ?_, h.lsr⟩
        rcases List.mem_append.1 hl with hl | hl
        · exact upl l hl
        · have : l = ⟨(n : Int), x.port, (takV (nth S.hold (x.frm).toNat) x.tons).2.map (movL n)⟩ := by simpa using hl
          subst this
          exact ⟨movL_ok sp.2.2.2, by show sumT ((takV _ _).2.map _) ≤ _; rw [sumT_mov, sp.2.1]; omega, by show 0 ≤ (n : Int) ∧ (n : Int) < ((n + 1 : Nat) : Int); omega, hpt⟩
      · split
        · exact ⟨h.hn, h.h20, by simp [h.sn], h.bn, h.lsn, h.bil, h.cap, up, by have := h.ldn; show S.landed.length ≤ n + 1; omega, upl, h.lsr⟩
        · exact ⟨h.hn, h.h20, by simp [h.sn], h.bn, h.lsn, h.bil, h.cap, up, by have := h.ldn; show S.landed.length ≤ n + 1; omega, upl, h.lsr⟩

end Go.Proofs.Ytblkphbblkncdaa
