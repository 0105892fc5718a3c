/- DmaTables, in plain words: what is left of a table, and how the channel stands there. -/
import Derived.Test.YtkeikkkcmackeaaDmaN
import Derived.Test.YtkeikkkcmackeaaTabA
namespace Go.Proofs.Ytkeikkkcmackeaa
set_option linter.unusedVariables false
set_option linter.unusedSimpArgs false

def cntOf (c : Int) : Nat := (c % 128).toNat
def OkE (es : List (Int × Int)) : Prop := ∀ e ∈ es, 0 ≤ e.1 ∧ e.1 ≤ 255 ∧ 0 ≤ e.2 ∧ e.2 ≤ 255
/-- In an entry, ahead of its line j. -/
structure Mid (n : Nat) (Bs : List Int) (Ls : List (List Int)) (p k : Nat) (c v : Int) (j : Nat) (es : List (Int × Int)) : Prop where
  ok : OkE es
  c0 : 0 ≤ c
  c1 : c ≤ 255
  jl : j < cntOf c
  b : Bs.drop p = ((tblk c v n (cntOf c)).drop j).flatten ++ (tabB n es ++ [0])
  l : Ls.drop k = (tblk c v n (cntOf c)).drop j ++ tabL n es
/-- Ahead of an entry. -/
structure Fresh (n : Nat) (Bs : List Int) (Ls : List (List Int)) (p k : Nat) (es : List (Int × Int)) : Prop where
  ok : OkE es
  b : Bs.drop p = tabB n es ++ [0]
  l : Ls.drop k = tabL n es
theorem drop_head {α : Type} {xs ys : List α} {p : Nat} {x : α} (h : xs.drop p = x :: ys) : xs[p]? = some x ∧ xs.drop (p + 1) = ys := by
  constructor
  · have : (xs.drop p)[0]? = some x := by rw [h]; rfl
    rw [List.getElem?_drop] at this
    exact this
  · have : (xs.drop p).drop 1 = ys := by rw [h]; rfl
    rw [List.drop_drop] at this
    exact this
theorem drop_row {α : Type} {xs us ys : List α} {p : Nat} (h : xs.drop p = us ++ ys) : (∀ m x, us[m]? = some x → xs[p + m]? = some x) ∧ xs.drop (p + us.length) = ys := by
  constructor
  · intro m x hx
    rw [← List.getElem?_drop, h, List.getElem?_append_left (List.getElem?_eq_some_iff.mp hx).1]
    exact hx
  · have : (xs.drop p).drop us.length = ys := by rw [h]; simp
    rw [List.drop_drop] at this
    exact this
variable {n : Nat} {Bs : List Int} {Ls : List (List Int)} {p k : Nat}
theorem Fresh.next : ∀ {es : List (Int × Int)}, Fresh n Bs Ls p k es →
    (Bs[p]? = some 0 ∧ Ls.length ≤ k) ∨ ∃ c v es', Bs[p]? = some c ∧ c ≠ 0 ∧ Mid n Bs Ls (p + 1) k c v 0 es' := by
  intro es
  induction es with
  | nil =>
    rintro ⟨ok, b, l⟩
    refine Or.inl ⟨(drop_head (ys := []) (by simpa [tabB] using b)).1, ?_⟩
    have : Ls.drop k = [] := by simpa [tabL] using l
    exact List.drop_eq_nil_iff.mp this
  | cons e es ih =>
    rintro ⟨ok, b, l⟩
    have ok' : OkE es := fun x hx => ok x (List.mem_cons_of_mem _ hx)
    obtain ⟨e0, e1, e2, e3⟩ := ok e (List.mem_cons_self ..)
    have hB : tabB n (e :: es) = entB n e ++ tabB n es := by unfold tabB; simp
    have hL : tabL n (e :: es) = entL n e ++ tabL n es := by unfold tabL; simp
    rw [hB] at b
    rw [hL] at l
    by_cases hz : e.1 % 128 = 0
    · have h1 : entB n e = [] := by unfold entB; rw [if_pos hz]
      have h2 : entL n e = [] := by unfold entL; rw [if_pos hz]
      rw [h1, List.nil_append] at b
      rw [h2, List.nil_append] at l
      exact ih ⟨ok', b, l⟩
    · have h1 : entB n e = e.1 :: (tblk e.1 e.2 n (cntOf e.1)).flatten := by unfold entB cntOf; rw [if_neg hz]
      have h2 : entL n e = tblk e.1 e.2 n (cntOf e.1) := by unfold entL cntOf; rw [if_neg hz]
      rw [h1, List.cons_append, List.cons_append] at b
      rw [h2] at l
      obtain ⟨b1, b2⟩ := drop_head b
      exact Or.inr ⟨e.1, e.2, es, b1, by omega, ⟨ok', e0, e1, by unfold cntOf; omega, by rw [b2]; simp, by simpa using l⟩⟩
theorem tblk_drop (c v : Int) (n m j : Nat) (h : j < m) : (tblk c v n m).drop j = tline c v n j :: (tblk c v n m).drop (j + 1) := by
  have hl : j < (tblk c v n m).length := by unfold tblk; simpa using h
  rw [List.drop_eq_getElem_cons hl]
  congr 1
  have h2 : (tblk c v n m)[j]? = some (tline c v n j) := by unfold tblk; simp [h]
  rw [List.getElem?_eq_getElem hl] at h2
  exact Option.some.inj h2
theorem Mid.line {c v : Int} {j : Nat} {es : List (Int × Int)} (h : Mid n Bs Ls p k c v j es) :
    Ls[k]? = some (tline c v n j) ∧ (∀ m x, (tline c v n j)[m]? = some x → Bs[p + m]? = some x) ∧
    (j + 1 < cntOf c → Mid n Bs Ls (p + (tline c v n j).length) (k + 1) c v (j + 1) es) ∧ (j + 1 = cntOf c → Fresh n Bs Ls (p + (tline c v n j).length) (k + 1) es) := by
  obtain ⟨ok, c0, c1, jl, b, l⟩ := h
  rw [tblk_drop c v n _ j jl] at b l
  rw [List.flatten_cons, List.append_assoc] at b
  rw [List.cons_append] at l
  obtain ⟨b1, b2⟩ := drop_row b
  obtain ⟨l1, l2⟩ := drop_head l
  refine ⟨l1, b1, fun h => ⟨ok, c0, c1, h, b2, l2⟩, fun h => ?_⟩
  have e : (tblk c v n (cntOf c)).drop (j + 1) = [] := by
    apply List.drop_eq_nil_of_le
    unfold tblk; simp; omega
  rw [e] at b2 l2
  exact ⟨ok, by simpa using b2, by simpa using l2⟩
theorem tline_full {c v : Int} {n j : Nat} (h : j = 0 ∨ 128 < c) : (tline c v n j).length = n := by unfold tline; rw [if_pos h]; simp
theorem tline_none {c v : Int} {n j : Nat} (h : ¬ (j = 0 ∨ 128 < c)) : tline c v n j = [] := by unfold tline; rw [if_neg h]
theorem tline_rng {c v : Int} {n j m : Nat} {x : Int} (h : (tline c v n j)[m]? = some x) : 0 ≤ x ∧ x ≤ 255 := by
  have hx : x ∈ tline c v n j := List.mem_of_getElem? h
  unfold tline at hx
  split at hx
  · simp only [List.mem_map] at hx
    obtain ⟨a, _, rfl⟩ := hx
    omega
  · cases hx

/-! The channel. -/
theorem bitFacts (c : Nat) (hc : c < 8) : pt (bitOf c) (bitOf c) true = bitOf c ∧ pt (bitOf c) (bitOf c) false = 0 ∧ pt 0 (bitOf c) false = 0 ∧ pt 0 (bitOf c) true = bitOf c ∧ bits .or .u8 0 (bitOf c) = bitOf c ∧ bits .or .u8 (bitOf c) (bitOf c) = bitOf c ∧
    bits .and .u8 0 (bitOf c) = 0 ∧ bits .and .u8 (bitOf c) (bitOf c) ≠ 0 ∧ bits .andNot .u8 (bitOf c) (bitOf c) = 0 ∧ bits .andNot .u8 (bitOf c) 0 = bitOf c := by
  have h : ∀ c : Fin 8, pt (bitOf c.val) (bitOf c.val) true = bitOf c.val ∧ pt (bitOf c.val) (bitOf c.val) false = 0 ∧ pt 0 (bitOf c.val) false = 0 ∧ pt 0 (bitOf c.val) true = bitOf c.val ∧ bits .or .u8 0 (bitOf c.val) = bitOf c.val ∧ bits .or .u8 (bitOf c.val) (bitOf c.val) = bitOf c.val ∧
    bits .and .u8 0 (bitOf c.val) = 0 ∧ bits .and .u8 (bitOf c.val) (bitOf c.val) ≠ 0 ∧ bits .andNot .u8 (bitOf c.val) (bitOf c.val) = 0 ∧ bits .andNot .u8 (bitOf c.val) 0 = bitOf c.val := by decide +kernel
  exact h ⟨c, hc⟩
theorem and128 (z : Int) (h0 : 0 ≤ z) (h1 : z ≤ 255) : (bits .and .u8 z 128 != 0) = decide (128 ≤ z) := byte_fact (P := fun z => (bits .and .u8 z 128 != 0) = decide (128 ≤ z)) (by decide +kernel) z h0 h1

structure Tq (ch : Nat) (m tp : Int) (f : Nat → Int) (p : Nat) (before way stage counter does ended : Int) : Prop where
  r : Rng f
  hm : f (ch * 12) = m
  hp : f (ch * 12 + 1) = tp
  hb : f (ch * 12 + 4) = 0
  ht : wordOf f (ch * 12 + 8) = p
  hc : f (ch * 12 + 10) = counter
  hz : f 96 = 0
  htb : f 98 = bitOf ch
  hen : f 99 = ended
  hds : f 100 = does
  hwy : f 101 = way
  hbf : f 102 = before
  hst : f 103 = stage
theorem cnt_at {c : Nat} (hc : c < 8) {f : Nat → Int} {z : Int} (h : f (c * 12 + 10) = z + 1) (z0 : 0 ≤ z) (z1 : z ≤ 254) :
    (cntF c f).1 = decide (z % 128 ≠ 0) ∧ (cntF c f).2 (c * 12 + 10) = z ∧ (cntF c f).2 100 = pt (f 100) (bitOf c) (decide (128 ≤ z)) ∧
    (cntF c f).2 102 = (if z % 128 = 0 then f 102 else bits .andNot .u8 (f 102) (bitOf c)) ∧ (cntF c f).2 103 = (if z % 128 = 0 then 8 else f 103) := by
  have hA : cntA c f = put1 f (c * 12 + 10) z := by unfold cntA; rw [h]; congr 1; omega
  have hB : cntB c (cntA c f) = put1 (put1 f (c * 12 + 10) z) 100 (pt (f 100) (bitOf c) (decide (128 ≤ z))) := by
    have q1 : put1 f (c * 12 + 10) z (c * 12 + 10) = z := by rw [put1_at, if_pos rfl]
    have q2 : put1 f (c * 12 + 10) z 100 = f 100 := put1_ne (by omega)
    unfold cntB
    rw [hA, q1, q2, and128 z z0 (by omega)]
  have h10 : put1 (put1 f (c * 12 + 10) z) 100 (pt (f 100) (bitOf c) (decide (128 ≤ z))) (c * 12 + 10) = z := by rw [put1_ne (by omega), put1_at, if_pos rfl]
  have h102 : put1 (put1 f (c * 12 + 10) z) 100 (pt (f 100) (bitOf c) (decide (128 ≤ z))) 102 = f 102 := by rw [put1_ne (by omega), put1_ne (by omega)]
  unfold cntF cntC
  rw [hB, h10, h102]
  by_cases hz : z % 128 = 0
  · simp only [if_pos hz]
    refine ⟨by simp [hz], ?_, ?_, ?_, ?_⟩
    · rw [put1_ne (by omega)]; exact h10
    · rw [put1_ne (by omega), put1_at, if_pos rfl]
    · rw [put1_ne (by omega)]; exact h102
    · rw [put1_at, if_pos rfl]
  · simp only [if_neg hz]
    refine ⟨by simp [hz], ?_, ?_, ?_, ?_⟩
    · rw [put1_ne (by omega)]; exact h10
    · rw [put1_ne (by omega), put1_at, if_pos rfl]
    · rw [put1_at, if_pos rfl]
    · rw [put1_ne (by omega), put1_ne (by omega), put1_ne (by omega)]
theorem word_cnt {c : Nat} (hc : c < 8) (f : Nat → Int) : wordOf (cntF c f).2 (c * 12 + 8) = wordOf f (c * 12 + 8) := by
  unfold wordOf; rw [cntF_ne c hc f (by omega) (by omega) (by omega) (by omega), cntF_ne c hc f (by omega) (by omega) (by omega) (by omega)]
/-- A line counted down: what stays. -/
theorem Tq.count {ch : Nat} (hc : ch < 8) {m tp : Int} {f : Nat → Int} {p : Nat} {stage z does d' : Int} (h : Tq ch m tp f p (bitOf ch) 2 stage (z + 1) does 0) (z0 : 0 ≤ z) (z1 : z ≤ 254) (hd : pt does (bitOf ch) (decide (128 ≤ z)) = d') :
    (z % 128 = 0 → (cntF ch f).1 = false ∧ Tq ch m tp (cntF ch f).2 p (bitOf ch) 2 8 z d' 0) ∧ (z % 128 ≠ 0 → (cntF ch f).1 = true ∧ Tq ch m tp (endF (cntF ch f).2) p 0 0 0 z d' 0) := by
  obtain ⟨_, _, _, _, _, _, _, _, ba, _⟩ := bitFacts ch hc
  obtain ⟨k1, k2, k3, k4, k5⟩ := cnt_at hc h.hc z0 z1
  rw [h.hds, hd] at k3
  rw [h.hbf, ba] at k4
  have RC := cntF_rng h.r ch hc
  have E := fun j h1 h2 h3 h4 => cntF_ne ch hc f (j := j) h1 h2 h3 h4
  have W := word_cnt hc f
  refine ⟨fun hz => ?_, fun hz => ?_⟩
  · rw [if_pos hz] at k4 k5
    refine ⟨by rw [k1]; simp [hz], RC, ?_, ?_, ?_, W.trans h.ht, k2, ?_, ?_, ?_, k3, ?_, k4, k5⟩
    · rw [E _ (by omega) (by omega) (by omega) (by omega)]; exact h.hm
    · rw [E _ (by omega) (by omega) (by omega) (by omega)]; exact h.hp
    · rw [E _ (by omega) (by omega) (by omega) (by omega)]; exact h.hb
    · rw [E _ (by omega) (by omega) (by omega) (by omega)]; exact h.hz
    · rw [E _ (by omega) (by omega) (by omega) (by omega)]; exact h.htb
    · rw [E _ (by omega) (by omega) (by omega) (by omega)]; exact h.hen
    · rw [E _ (by omega) (by omega) (by omega) (by omega)]; exact h.hwy
  · rw [if_neg hz] at k4 k5
    have D := fun j (h1 : j ≠ 103) (h2 : j ≠ 101) => (show endF (cntF ch f).2 j = (cntF ch f).2 j by unfold endF; rw [put1_ne h2, put1_ne h1])
    refine ⟨by rw [k1]; simp [hz], endF_rng RC, ?_, ?_, ?_, ?_, ?_, ?_, ?_, ?_, ?_, rfl, ?_, rfl⟩
    · rw [D _ (by omega) (by omega), E _ (by omega) (by omega) (by omega) (by omega)]; exact h.hm
    · rw [D _ (by omega) (by omega), E _ (by omega) (by omega) (by omega) (by omega)]; exact h.hp
    · rw [D _ (by omega) (by omega), E _ (by omega) (by omega) (by omega) (by omega)]; exact h.hb
    · unfold wordOf; rw [D _ (by omega) (by omega), D _ (by omega) (by omega)]; exact W.trans h.ht
    · rw [D _ (by omega) (by omega)]; exact k2
    · rw [D _ (by omega) (by omega), E _ (by omega) (by omega) (by omega) (by omega)]; exact h.hz
    · rw [D _ (by omega) (by omega), E _ (by omega) (by omega) (by omega) (by omega)]; exact h.htb
    · rw [D _ (by omega) (by omega), E _ (by omega) (by omega) (by omega) (by omega)]; exact h.hen
    · rw [D _ (by omega) (by omega)]; exact k3
    · rw [D _ (by omega) (by omega)]; exact k4
theorem lineA_ne {b : Int} {f : Nat → Int} {j : Nat} (h : j ≠ 101) (h2 : j ≠ 102) : lineA b f j = f j := by unfold lineA; rw [put1_ne h2, put1_ne h]
/-- A line begins. -/
theorem Tq.begun {ch : Nat} (hc : ch < 8) {m tp : Int} {f : Nat → Int} {p : Nat} {counter does : Int} (h : Tq ch m tp f p 0 0 0 counter does 0) : Tq ch m tp (put1 (lineA (bitOf ch) f) 103 0) p (bitOf ch) 2 0 counter does 0 := by
  obtain ⟨b0, b1, _, _⟩ := bit_rng ch hc
  have D := fun j (h1 : j ≠ 103) (h2 : j ≠ 101) (h3 : j ≠ 102) => (show put1 (lineA (bitOf ch) f) 103 0 j = f j by rw [put1_ne h1, lineA_ne h2 h3])
  refine ⟨(((h.r.put1 _ (by omega) (by omega)).put1 _ b0 b1).put1 _ (by omega) (by omega)), ?_, ?_, ?_, ?_, ?_, ?_, ?_, ?_, ?_, rfl, rfl, rfl⟩
  · rw [D _ (by omega) (by omega) (by omega)]; exact h.hm
  · rw [D _ (by omega) (by omega) (by omega)]; exact h.hp
  · rw [D _ (by omega) (by omega) (by omega)]; exact h.hb
  · unfold wordOf; rw [D _ (by omega) (by omega) (by omega), D _ (by omega) (by omega) (by omega)]; exact h.ht
  · rw [D _ (by omega) (by omega) (by omega)]; exact h.hc
  · rw [D _ (by omega) (by omega) (by omega)]; exact h.hz
  · rw [D _ (by omega) (by omega) (by omega)]; exact h.htb
  · rw [D _ (by omega) (by omega) (by omega)]; exact h.hen
  · rw [D _ (by omega) (by omega) (by omega)]; exact h.hds
theorem Tq.line1 {ch : Nat} (hc : ch < 8) {m tp : Int} {f : Nat → Int} {p : Nat} {counter : Int} (h : Tq ch m tp f p 0 0 0 counter (bitOf ch) 0) : Tq ch m tp (linF ch (lineA (bitOf ch) f)) p (bitOf ch) 2 0 counter (bitOf ch) 0 := by
  obtain ⟨_, _, _, _, _, _, _, bn, _, _⟩ := bitFacts ch hc
  have hl : linF ch (lineA (bitOf ch) f) = put1 (lineA (bitOf ch) f) 103 0 := by
    unfold linF
    rw [lineA_ne (by omega) (by omega), h.hds, if_neg bn]
  rw [hl]
  exact h.begun hc
theorem Tq.line0 {ch : Nat} (hc : ch < 8) {m tp : Int} {f : Nat → Int} {p : Nat} {z : Int} (h : Tq ch m tp f p 0 0 0 (z + 1) 0 0) (z0 : 0 ≤ z) (z1 : z ≤ 126) :
    (z = 0 → Tq ch m tp (linF ch (lineA (bitOf ch) f)) p (bitOf ch) 2 8 z 0 0) ∧ (z ≠ 0 → Tq ch m tp (linF ch (lineA (bitOf ch) f)) p 0 0 0 z 0 0) := by
  obtain ⟨_, _, pz, _, _, _, an, _, _, _⟩ := bitFacts ch hc
  obtain ⟨c1, c2⟩ := (h.begun hc).count hc z0 (by omega) (d' := 0) (by rw [decide_eq_false (by omega)]; exact pz)
  have hl : linF ch (lineA (bitOf ch) f) = (if (cntF ch (put1 (lineA (bitOf ch) f) 103 0)).1 = true then endF (cntF ch (put1 (lineA (bitOf ch) f) 103 0)).2 else (cntF ch (put1 (lineA (bitOf ch) f) 103 0)).2) := by
    unfold linF
    rw [lineA_ne (by omega) (by omega), h.hds, if_pos an]
  rw [hl]
  refine ⟨fun hz => ?_, fun hz => ?_⟩
  · obtain ⟨e, t⟩ := c1 (by omega)
    rw [e, if_neg (by decide)]; exact t
  · obtain ⟨e, t⟩ := c2 (by omega)
    rw [e, if_pos rfl]; exact t
/-- A byte of a line is moved. -/
theorem Tq.unitA {ch : Nat} (hc : ch < 8) {m tp : Int} {f : Nat → Int} {p : Nat} {stage counter does : Int} (h : Tq ch m tp f p (bitOf ch) 2 stage counter does 0) (hp : p < 60000) (s0 : 0 ≤ stage) (s1 : stage ≤ 7) : Tq ch m tp (uniA ch f) (p + 1) (bitOf ch) 2 (stage + 1) counter does 0 := by
  have w := wordOf_rng h.r (ch * 12 + 8)
  have D := fun j (h1 : j ≠ ch * 12 + 8) (h2 : j ≠ ch * 12 + 9) (h3 : j ≠ 103) => (uniA_ne h1 h2 h3 : uniA ch f j = f j)
  refine ⟨(h.r.put2 _ (by omega) (by omega)).put1 _ (by omega) (by omega), ?_, ?_, ?_, ?_, ?_, ?_, ?_, ?_, ?_, ?_, ?_, ?_⟩
  · rw [D _ (by omega) (by omega) (by omega)]; exact h.hm
  · rw [D _ (by omega) (by omega) (by omega)]; exact h.hp
  · rw [D _ (by omega) (by omega) (by omega)]; exact h.hb
  · unfold uniA; rw [word_put1 (by omega) (by omega), word_put2, h.ht]; omega
  · rw [D _ (by omega) (by omega) (by omega)]; exact h.hc
  · rw [D _ (by omega) (by omega) (by omega)]; exact h.hz
  · rw [D _ (by omega) (by omega) (by omega)]; exact h.htb
  · rw [D _ (by omega) (by omega) (by omega)]; exact h.hen
  · rw [D _ (by omega) (by omega) (by omega)]; exact h.hds
  · rw [D _ (by omega) (by omega) (by omega)]; exact h.hwy
  · rw [D _ (by omega) (by omega) (by omega)]; exact h.hbf
  · unfold uniA; rw [put1_at, if_pos rfl, h.hst]; omega
theorem Tq.unit {ch : Nat} (hc : ch < 8) {m tp : Int} {f : Nat → Int} {p : Nat} {stage counter does : Int} (h : Tq ch m tp f p (bitOf ch) 2 stage counter does 0) (hp : p < 60000) (s0 : 0 ≤ stage) (s1 : stage + 1 < lenOf m) (l4 : lenOf m ≤ 4) :
    Tq ch m tp (uniF ch f) (p + 1) (bitOf ch) 2 (stage + 1) counter does 0 := by
  have hu : uniF ch f = uniA ch f := by
    unfold uniF
    rw [h.hm, h.hst, if_neg (by omega)]
  rw [hu]
  exact h.unitA hc hp s0 (by omega)
theorem Tq.unitLast {ch : Nat} (hc : ch < 8) {m tp : Int} {f : Nat → Int} {p : Nat} {stage z : Int} (h : Tq ch m tp f p (bitOf ch) 2 stage (z + 1) (bitOf ch) 0) (hp : p < 60000) (s0 : 0 ≤ stage) (s1 : stage + 1 = lenOf m) (l4 : lenOf m ≤ 4) (z0 : 0 ≤ z) (z1 : z ≤ 254) :
    (z % 128 = 0 → Tq ch m tp (uniF ch f) (p + 1) (bitOf ch) 2 8 z (if 128 ≤ z then bitOf ch else 0) 0) ∧ (z % 128 ≠ 0 → Tq ch m tp (uniF ch f) (p + 1) 0 0 0 z (if 128 ≤ z then bitOf ch else 0) 0) := by
  obtain ⟨pt1, pt0, _, _, _, _, _, _, _, _⟩ := bitFacts ch hc
  have hd : pt (bitOf ch) (bitOf ch) (decide (128 ≤ z)) = (if 128 ≤ z then bitOf ch else 0) := by
    by_cases e : 128 ≤ z
    · rw [decide_eq_true e, if_pos e, pt1]
    · rw [decide_eq_false e, if_neg e, pt0]
  obtain ⟨c1, c2⟩ := (h.unitA hc hp s0 (by omega)).count hc z0 z1 hd
  have hu : uniF ch f = (if (cntF ch (uniA ch f)).1 = true then endF (cntF ch (uniA ch f)).2 else (cntF ch (uniA ch f)).2) := by
    unfold uniF
    rw [h.hm, h.hst, if_pos (by omega)]
  rw [hu]
  refine ⟨fun hz => ?_, fun hz => ?_⟩
  · obtain ⟨e, t⟩ := c1 (by omega)
    rw [e, if_neg (by decide)]; exact t
  · obtain ⟨e, t⟩ := c2 (by omega)
    rw [e, if_pos rfl]; exact t
/-- A byte of an entry is read. -/
theorem Tq.entry {ch : Nat} (hc : ch < 8) {m tp : Int} {f : Nat → Int} {p : Nat} {way counter d : Int} (h : Tq ch m tp f p (bitOf ch) way 8 counter d 0) (hp : p < 60000) (hd : d = 0 ∨ d = bitOf ch) {v : Int} (v0 : 0 ≤ v) (v1 : v ≤ 255) :
    (v ≠ 0 → Tq ch m tp (entF ch v f) (p + 1) 0 0 0 v (bitOf ch) 0) ∧ (v = 0 → Tq ch m tp (entF ch v f) (p + 1) 0 0 0 v d (bitOf ch)) := by
  obtain ⟨_, _, _, _, o0, o1, _, _, _, _⟩ := bitFacts ch hc
  have R := entF_rng h.r ch hc v v0 v1
  have w := wordOf_rng h.r (ch * 12 + 8)
  have hor : bits .or .u8 d (bitOf ch) = bitOf ch := by rcases hd with rfl | rfl <;> assumption
  have E := fun j (h1 : j ≠ ch * 12 + 8) (h2 : j ≠ ch * 12 + 9) (h3 : j ≠ ch * 12 + 10) => (entA_ne h1 h2 h3 : entA ch v f j = f j)
  have E8 : entA ch v f (ch * 12 + 8) = ((p : Int) + 1) % 65536 % 256 := by
    unfold entA put2; rw [put1_ne (by omega), put1_ne (by omega), put1_at, if_pos rfl, h.ht]
  have E9 : entA ch v f (ch * 12 + 8 + 1) = ((p : Int) + 1) % 65536 / 256 := by
    unfold entA put2; rw [put1_ne (by omega), put1_at, if_pos rfl, h.ht]
  have E10 : entA ch v f (ch * 12 + 10) = v := by unfold entA; rw [put1_at, if_pos rfl]
  have D : ∀ j, j ≠ 99 → j ≠ 100 → j ≠ 101 → j ≠ 102 → j ≠ 103 → entF ch v f j = entA ch v f j := by
    intro j h1 h2 h3 h4 h5
    unfold entF endF
    rw [put1_ne h3, put1_ne h5, put1_ne h4]
    split
    · rw [put1_ne h1]
    · rw [put1_ne h2]
  have D2 : ∀ j, j < 96 ∨ j = 98 ∨ j = 96 → j ≠ ch * 12 + 8 → j ≠ ch * 12 + 9 → j ≠ ch * 12 + 10 → entF ch v f j = f j := fun j hj h1 h2 h3 => by
    rw [D j (by omega) (by omega) (by omega) (by omega) (by omega)]; exact E j h1 h2 h3
  have k0 := D2 (ch * 12) (by omega) (by omega) (by omega) (by omega)
  have k1 := D2 (ch * 12 + 1) (by omega) (by omega) (by omega) (by omega)
  have k4 := D2 (ch * 12 + 4) (by omega) (by omega) (by omega) (by omega)
  have kz := D2 96 (by omega) (by omega) (by omega) (by omega)
  have kt := D2 98 (by omega) (by omega) (by omega) (by omega)
  have k10 := D (ch * 12 + 10) (by omega) (by omega) (by omega) (by omega) (by omega)
  have kw : wordOf (entF ch v f) (ch * 12 + 8) = ((p + 1 : Nat) : Int) := by
    unfold wordOf
    rw [D _ (by omega) (by omega) (by omega) (by omega) (by omega), D _ (by omega) (by omega) (by omega) (by omega) (by omega), E8, E9]
    omega
  have e101 : entF ch v f 101 = 0 := rfl
  have e103 : entF ch v f 103 = 0 := rfl
  have e102 : entF ch v f 102 = 0 := rfl
  refine ⟨fun hv => ?_, fun hv => ?_⟩
  · have e99 : entF ch v f 99 = 0 := by
      unfold entF endF
      rw [put1_ne (by omega), put1_ne (by omega), put1_ne (by omega), if_neg hv, put1_ne (by omega), E _ (by omega) (by omega) (by omega), h.hen]
    have e100 : entF ch v f 100 = bitOf ch := by
      unfold entF endF
      rw [put1_ne (by omega), put1_ne (by omega), put1_ne (by omega), if_neg hv, put1_at, if_pos rfl, h.hds, hor]
    exact ⟨R, k0.trans h.hm, k1.trans h.hp, k4.trans h.hb, kw, k10.trans E10, kz.trans h.hz, kt.trans h.htb, e99, e100, e101, e102, e103⟩
  · have e99 : entF ch v f 99 = bitOf ch := by
      unfold entF endF
      rw [put1_ne (by omega), put1_ne (by omega), put1_ne (by omega), if_pos hv, put1_at, if_pos rfl, h.hen, o0]
    have e100 : entF ch v f 100 = d := by
      unfold entF endF
      rw [put1_ne (by omega), put1_ne (by omega), put1_ne (by omega), if_pos hv, put1_ne (by omega), E _ (by omega) (by omega) (by omega), h.hds]
    exact ⟨R, k0.trans h.hm, k1.trans h.hp, k4.trans h.hb, kw, k10.trans E10, kz.trans h.hz, kt.trans h.htb, e99, e100, e101, e102, e103⟩
/-- What is next. -/
theorem Tq.nextT {ch : Nat} {m tp : Int} {f : Nat → Int} {p : Nat} {before way stage counter does ended : Int} (h : Tq ch m tp f p before way stage counter does ended) (m0 : 0 ≤ m) (m7 : m ≤ 7) :
    (8 ≤ stage → tabT ch f = ((1 : Int), (p : Int), (0 : Int))) ∧ (stage < 8 → tabT ch f = ((2 : Int), (p : Int), (tp + patOf m stage) % 256)) := by
  have hk : kindOf m = 2 := by
    have h : ∀ n : Fin 8, kindOf (n.val : Int) = 2 := by decide +kernel
    have := h ⟨m.toNat, by omega⟩
    simp only [] at this
    rwa [Int.toNat_of_nonneg m0] at this
  have hl : liesOf f (ch * 12 + 4) (ch * 12 + 8) = p := by unfold liesOf; rw [h.hb, h.ht]; omega
  refine ⟨fun hs => ?_, fun hs => ?_⟩
  · unfold tabT; rw [h.hst, if_pos hs, hl]
  · unfold tabT; rw [h.hst, if_neg (by omega), hl, h.hm, h.hp, hk]
/-- How it begins. -/
def tbA (ch : Nat) (m tp : Int) : Nat → Int := put1 (put1 (put1 (fun _ => 0) (ch * 12 + 0) m) (ch * 12 + 1) tp) 98 (bitOf ch)
theorem tbA_rng {ch : Nat} (hc : ch < 8) {m tp : Int} (m0 : 0 ≤ m) (m7 : m ≤ 7) (t0 : 0 ≤ tp) (t1 : tp ≤ 255) : Rng (tbA ch m tp) := by
  obtain ⟨b0, b1, _, _⟩ := bit_rng ch hc
  exact ((rng_zero.put1 _ m0 (by omega)).put1 _ t0 t1).put1 _ b0 b1
theorem Tq.start {ch : Nat} (hc : ch < 8) {m tp : Int} (m0 : 0 ≤ m) (m7 : m ≤ 7) (t0 : 0 ≤ tp) (t1 : tp ≤ 255) : Tq ch m tp (frameF ch (tbA ch m tp)) 0 (bitOf ch) 1 8 0 0 0 := by
  obtain ⟨_, _, pz, _, _, _, _, _, _, _⟩ := bitFacts ch hc
  have R := frameF_rng (tbA_rng hc m0 m7 t0 t1) ch hc
  have T : ∀ j, j ≠ ch * 12 → j ≠ ch * 12 + 1 → j ≠ 98 → tbA ch m tp j = 0 := fun j h1 h2 h3 => by
    unfold tbA; rw [put1_ne h3, put1_ne h2, put1_ne (by omega)]
  have w2 : wordOf (put1 (put1 (put1 (put1 (tbA ch m tp) 101 1) 102 (bitOf ch)) 103 0) 99 (pt ((put1 (put1 (tbA ch m tp) 101 1) 102 (bitOf ch)) 99) (bitOf ch) false)) (ch * 12 + 2) = 0 := by
    rw [word_put1 (by omega) (by omega), word_put1 (by omega) (by omega), word_put1 (by omega) (by omega), word_put1 (by omega) (by omega)]
    unfold wordOf; rw [T _ (by omega) (by omega) (by omega), T _ (by omega) (by omega) (by omega)]; rfl
  have D : ∀ j, j < 96 ∨ j = 96 ∨ j = 98 ∨ j = 100 → j ≠ ch * 12 + 8 → j ≠ ch * 12 + 9 → frameF ch (tbA ch m tp) j = tbA ch m tp j := fun j h1 h2 h3 => by
    unfold frameF frmF
    rw [put1_ne (by omega), put2_ne (by omega) (by omega), put1_ne (by omega), put1_ne (by omega), put1_ne (by omega), put1_ne (by omega)]
  refine ⟨R, ?_, ?_, ?_, ?_, ?_, ?_, ?_, ?_, ?_, ?_, ?_, ?_⟩
  · rw [D _ (by omega) (by omega) (by omega)]; unfold tbA; rw [put1_ne (by omega), put1_ne (by omega), put1_at, if_pos (by omega)]
  · rw [D _ (by omega) (by omega) (by omega)]; unfold tbA; rw [put1_ne (by omega), put1_at, if_pos rfl]
  · rw [D _ (by omega) (by omega) (by omega)]; exact T _ (by omega) (by omega) (by omega)
  · unfold frameF frmF
    rw [word_put1 (by omega) (by omega), word_put2]; exact w2
  · rw [D _ (by omega) (by omega) (by omega)]; exact T _ (by omega) (by omega) (by omega)
  · rw [D _ (by omega) (by omega) (by omega)]; exact T _ (by omega) (by omega) (by omega)
  · rw [D _ (by omega) (by omega) (by omega)]; unfold tbA; rw [put1_at, if_pos rfl]
  · unfold frameF frmF
    rw [put1_ne (by omega), put2_ne (by omega) (by omega), put1_at, if_pos rfl, put1_ne (by omega), put1_ne (by omega), T _ (by omega) (by omega) (by omega)]; exact pz
  · rw [D _ (by omega) (by omega) (by omega)]; exact T _ (by omega) (by omega) (by omega)
  · unfold frameF frmF
    rw [put1_ne (by omega), put2_ne (by omega) (by omega), put1_ne (by omega), put1_ne (by omega), put1_ne (by omega), put1_at, if_pos rfl]
  · unfold frameF frmF
    rw [put1_ne (by omega), put2_ne (by omega) (by omega), put1_ne (by omega), put1_ne (by omega), put1_at, if_pos rfl]
  · unfold frameF frmF
    rw [put1_at, if_pos rfl]
theorem Tq.over {ch : Nat} (hc : ch < 8) {m tp : Int} {f : Nat → Int} {p : Nat} {counter does : Int} (h : Tq ch m tp f p 0 0 0 counter does (bitOf ch)) : bits .andNot .u8 (f 98) (f 99) = 0 ∧ f 101 = 0 ∧ (endF (lineA 0 f)) 96 = 0 ∧ (endF (lineA 0 f)) 101 = 0 := by
  obtain ⟨_, _, _, _, _, _, _, _, ba, _⟩ := bitFacts ch hc
  refine ⟨by rw [h.htb, h.hen, ba], h.hwy, ?_, rfl⟩
  unfold endF
  rw [put1_ne (by omega), put1_ne (by omega), lineA_ne (by omega) (by omega)]; exact h.hz

/-- Ahead of line k. -/
def AtL (ch : Nat) (m tp : Int) (n : Nat) (Bs : List Int) (Ls : List (List Int)) (k : Nat) (f : Nat → Int) : Prop :=
  ∃ p, (∃ c v j es, Mid n Bs Ls p k c v j es ∧ Tq ch m tp f p 0 0 0 (c - j) (if j = 0 ∨ 128 < c then bitOf ch else 0) 0) ∨ (k = Ls.length ∧ ∃ ctr d, Tq ch m tp f p 0 0 0 ctr d (bitOf ch))
/-- In line k, of which so many bytes are moved; what is next. -/
def InL (ch : Nat) (m tp : Int) (n : Nat) (Bs : List Int) (Ls : List (List Int)) (k moved : Nat) (f : Nat → Int) (is : Bool) (x : Int × Int × Int) : Prop :=
  ∃ tl, Ls[k]? = some tl ∧ tl.length ≤ n ∧
  ((∃ p c v j es, Mid n Bs Ls p k c v j es ∧ tl = tline c v n j ∧ (j = 0 ∨ 128 < c) ∧ moved < n ∧ Tq ch m tp f (p + moved) (bitOf ch) 2 moved (c - j) (bitOf ch) 0 ∧ is = true ∧ x = (2, ((p + moved : Nat) : Int), (tp + patOf m moved) % 256)) ∨
   (∃ p es ctr d, Fresh n Bs Ls p (k + 1) es ∧ (d = 0 ∨ d = bitOf ch) ∧ Tq ch m tp f p (bitOf ch) 2 8 ctr d 0 ∧ moved = tl.length ∧ is = true ∧ x = (1, (p : Int), 0)) ∨
   (AtL ch m tp n Bs Ls (k + 1) f ∧ moved = tl.length ∧ is = false ∧ x = (0, 0, 0)))
end Go.Proofs.Ytkeikkkcmackeaa
