import PyProof.Rows.All
import Wide.All
import OpenK.AllK
import Wide.FinOn
import Open.SpecLaws
import KE.OsGo
import HandS.ForSpec
import HandS.Comp
import HandS.Iter
import HandS.Walk
import HandS.Evl
import HandS.Wide
import HandS.NoneIn
import HandS.SortInts
import PyProof.Rows.ChunkEnd
import KE.OsSort
import PySem.Challenge.RW_lightcurves_s05_variable_stars
namespace LC
/-! ### numbers -/
/-- the signed number that is told by one from 0 on -/
def sg (n : Int) : Int := if 2147483648 ≤ n then n - 4294967296 else n
theorem sg_signed {n : Int} (h : 0 ≤ n) : sg n = Sh70.signed32 n.toNat := by
  unfold sg Sh70.signed32
  split <;> split <;> omega
theorem sg_words : ∀ {ns : List Int}, (∀ n ∈ ns, 0 ≤ n) → Sh70.signedWords (Sh70Neutral.toNats ns) = ns.map sg
  | [], _ => rfl
  | n :: r, h => by
    have ih := sg_words (ns := r) fun m hm => h m (List.mem_cons_of_mem _ hm)
    show Sh70.signed32 n.toNat :: Sh70.signedWords (Sh70Neutral.toNats r) = sg n :: r.map sg
    rw [ih, sg_signed (h n (List.mem_cons_self ..))]
theorem toInt32_sg {n : Int} (h : 0 ≤ n) : Sh70Neutral.toInt32 n.toNat = sg n := by
  unfold sg Sh70Neutral.toInt32
  split <;> split <;> omega
theorem toNats_len (ns : List Int) : (Sh70Neutral.toNats ns).length = ns.length := by
  unfold Sh70Neutral.toNats
  rw [List.length_map]
theorem sum_eq (l : List Int) : Sh70.sum l = l.sum := rfl
theorem w32 : ∀ l : List Int, Sh70Neutral.toInts (l.map Sh70.word32) = l.map fun z => z % 4294967296
  | [] => rfl
  | z :: r => by
    show ((Sh70.word32 z : Nat) : Int) :: Sh70Neutral.toInts (r.map Sh70.word32) = z % 4294967296 :: r.map fun z => z % 4294967296
    rw [w32 r]
    have e : ((Sh70.word32 z : Nat) : Int) = z % 4294967296 := by
      unfold Sh70.word32
      omega
    rw [e]
theorem w64 (z : Int) : ((Sh70.word64 z : Nat) : Int) = z % 18446744073709551616 := by
  unfold Sh70.word64
  omega
/-- what the program asks of a magnitude -/
def magOk (z : Int) : Bool := decide ((if z < 0 then -z else z) ≤ 99999)
theorem mag_is (z : Int) : magOk z = decide (z.natAbs < 100000) := by
  unfold magOk
  by_cases h : z < 0
  · rw [if_pos h]
    exact decide_eq_decide.mpr (by omega)
  · rw [if_neg h]
    exact decide_eq_decide.mpr (by omega)
theorem mags_are (l : List Int) : l.all magOk = Sh70.areValidMagnitudes l := by
  unfold Sh70.areValidMagnitudes
  rw [show magOk = fun a => decide (a.natAbs < 100000) from funext mag_is]
/-- the counts of a table -/
def tabOk (sc len : Int) : Bool := decide (1 ≤ sc) && decide (sc ≤ 32) && (decide (1 ≤ len / sc) && decide (len / sc ≤ 64))
theorem tab_is {sc : Int} {n : Nat} (h : 0 ≤ sc) : Sh70.isTableSize sc.toNat (n / sc.toNat) = tabOk sc (n : Int) := by
  obtain ⟨k, rfl⟩ := Int.eq_ofNat_of_zero_le h
  unfold Sh70.isTableSize Sh70.isBetween tabOk
  rw [show ((k : Int)).toNat = k from rfl]
  have e1 : decide (1 ≤ k) = decide ((1 : Int) ≤ (k : Int)) := decide_eq_decide.mpr (by omega)
  have e2 : decide (k ≤ 32) = decide ((k : Int) ≤ 32) := decide_eq_decide.mpr (by omega)
  have e0 : (n : Int) / (k : Int) = ((n / k : Nat) : Int) := (Int.natCast_ediv n k).symm
  have e3 : decide (1 ≤ n / k) = decide ((1 : Int) ≤ (n : Int) / (k : Int)) := decide_eq_decide.mpr (by rw [e0]; omega)
  have e4 : decide (n / k ≤ 64) = decide ((n : Int) / (k : Int) ≤ 64) := decide_eq_decide.mpr (by rw [e0]; omega)
  rw [e1, e2, e3, e4]
/-- one item more -/
theorem take_more {α : Type} : ∀ {l : List α} {i : Nat} {x : α}, l[i]? = some x → l.take (i + 1) = l.take i ++ [x]
  | [], i, x, h => by simp at h
  | a :: l, 0, x, h => by
    have e : a = x := Option.some.inj h
    subst e
    rfl
  | a :: l, i + 1, x, h => by
    have ih := take_more (l := l) (i := i) (x := x) h
    show a :: l.take (i + 1) = a :: l.take i ++ [x]
    rw [ih]
    rfl
theorem map_get {α β : Type} {f : α → β} {l : List α} {i : Nat} {y : β} (h : (l.map f)[i]? = some y) : ∃ x, l[i]? = some x ∧ y = f x := by
  rw [List.getElem?_map] at h
  cases e : l[i]? with
  | none =>
    rw [e] at h
    cases h
  | some x =>
    rw [e] at h
    exact ⟨x, rfl, (Option.some.inj h).symm⟩
end LC
namespace LC
/-! ### sums and squares -/
/-- how many there are times the sum of their squares, less the square of their sum -/
def spr (l : List Int) : Int := (l.length : Int) * (l.map fun a => a * a).sum - l.sum * l.sum
def dev (a : Int) (l : List Int) : Int := (l.map fun x => (x - a) * (x - a)).sum
theorem sq_nonneg (a : Int) : 0 ≤ a * a := by
  rcases Int.le_total 0 a with h | h
  · exact Int.mul_nonneg h h
  · exact Int.mul_nonneg_of_nonpos_of_nonpos h h
theorem dev_nonneg (a : Int) : ∀ l, 0 ≤ dev a l
  | [] => Int.le_refl 0
  | x :: r => by
    show 0 ≤ ((x - a) * (x - a) :: r.map fun x => (x - a) * (x - a)).sum
    rw [List.sum_cons]
    exact Int.add_nonneg (sq_nonneg _) (dev_nonneg a r)
theorem dev_eq (a : Int) : ∀ l : List Int, dev a l = (l.map fun a => a * a).sum - 2 * (a * l.sum) + (l.length : Int) * (a * a)
  | [] => by simp [dev]
  | x :: r => by
    have ih := dev_eq a r
    have e : dev a (x :: r) = (x - a) * (x - a) + dev a r := by
      show ((x - a) * (x - a) :: r.map fun x => (x - a) * (x - a)).sum = _
      rw [List.sum_cons]
      rfl
    rw [e, ih, List.map_cons, List.sum_cons, List.sum_cons, List.length_cons]
    have h1 : (x - a) * (x - a) = x * x - 2 * (a * x) + a * a := by
      rw [Int.sub_mul, Int.mul_sub, Int.mul_sub, Int.mul_comm x a]
      omega
    have h2 : a * (x + r.sum) = a * x + a * r.sum := Int.mul_add _ _ _
    have h3 : ((r.length + 1 : Nat) : Int) * (a * a) = (r.length : Int) * (a * a) + a * a := by
      rw [Int.natCast_add, Int.add_mul]
      simp
    rw [h1, h2, h3]
    omega
theorem spr_nonneg : ∀ l, 0 ≤ spr l
  | [] => by simp [spr]
  | a :: r => by
    have ih := spr_nonneg r
    have d := dev_nonneg a r
    rw [dev_eq] at d
    unfold spr at ih ⊢
    rw [List.map_cons, List.sum_cons, List.sum_cons, List.length_cons]
    generalize (r.map fun a => a * a).sum = S2 at *
    generalize r.sum = S at *
    have h3 : ((r.length + 1 : Nat) : Int) * (a * a + S2) = (r.length : Int) * (a * a) + (r.length : Int) * S2 + (a * a + S2) := by
      rw [Int.natCast_add, Int.add_mul, Int.mul_add]
      simp
    have h4 : (a + S) * (a + S) = a * a + 2 * (a * S) + S * S := by
      rw [Int.add_mul, Int.mul_add, Int.mul_add, Int.mul_comm S a]
      omega
    rw [h3, h4]
    generalize (r.length : Int) * S2 = x1 at *
    generalize S * S = x2 at *
    generalize a * a = x3 at *
    generalize a * S = x4 at *
    generalize (r.length : Int) * x3 = x5 at *
    omega
theorem sum_bound {b : Int} (hb : 0 ≤ b) : ∀ {l : List Int}, (∀ x ∈ l, -b ≤ x ∧ x ≤ b) → -(b * (l.length : Int)) ≤ l.sum ∧ l.sum ≤ b * (l.length : Int)
  | [], _ => by simp
  | x :: r, h => by
    have ih := sum_bound hb (l := r) fun y hy => h y (List.mem_cons_of_mem _ hy)
    have h0 := h x (List.mem_cons_self ..)
    rw [List.sum_cons, List.length_cons]
    have e : b * ((r.length + 1 : Nat) : Int) = b * (r.length : Int) + b := by
      rw [Int.natCast_add, Int.mul_add]
      simp
    rw [e]
    omega
theorem sq_bound {b x : Int} (h : -b ≤ x ∧ x ≤ b) : x * x ≤ b * b := by
  have h0 : 0 ≤ b := by omega
  rcases Int.le_total 0 x with c | c
  · exact Int.mul_le_mul h.2 h.2 c h0
  · have e : x * x = (-x) * (-x) := by rw [Int.neg_mul_neg]
    rw [e]
    exact Int.mul_le_mul (by omega) (by omega) (by omega) h0
theorem sq_sum_bound {b : Int} : ∀ {l : List Int}, (∀ x ∈ l, -b ≤ x ∧ x ≤ b) → 0 ≤ (l.map fun a => a * a).sum ∧ (l.map fun a => a * a).sum ≤ (b * b) * (l.length : Int)
  | [], _ => by simp
  | x :: r, h => by
    have ih := sq_sum_bound (l := r) fun y hy => h y (List.mem_cons_of_mem _ hy)
    have h0 := h x (List.mem_cons_self ..)
    rw [List.map_cons, List.sum_cons, List.length_cons]
    have e : (b * b) * ((r.length + 1 : Nat) : Int) = (b * b) * (r.length : Int) + b * b := by
      rw [Int.natCast_add, Int.mul_add]
      simp
    have s1 := sq_nonneg x
    have s2 := sq_bound h0
    rw [e]
    omega
theorem mag_bound {l : List Int} (h : Sh70.areValidMagnitudes l = true) : ∀ x ∈ l, -99999 ≤ x ∧ x ≤ 99999 := fun x hx => by
  have e := List.all_eq_true.mp h x hx
  have e2 : x.natAbs < 100000 := of_decide_eq_true e
  omega
theorem spr_spec (l : List Int) : ((l.length : Nat) : Int) * Sh70.sum (l.map fun a => a * a) - Sh70.sum l * Sh70.sum l = spr l := rfl
/-- the scatter, as the program tells it -/
theorem scat_is {l : List Int} (h : 0 < l.length) : ((Sh70.scatter l : Nat) : Int) = (256 * spr l) / ((l.length : Int) * (l.length : Int)) := by
  have e : Sh70.scatter l = (256 * spr l / ((l.length : Int) * (l.length : Int))).toNat := by
    unfold Sh70.scatter
    rw [if_neg (by omega)]
    rfl
  rw [e]
  exact Int.toNat_of_nonneg (Int.ediv_nonneg (Int.mul_nonneg (by decide) (spr_nonneg l)) (sq_nonneg _))
theorem spr_le {b : Int} {l : List Int} (hb : ∀ x ∈ l, -b ≤ x ∧ x ≤ b) : spr l ≤ (b * b) * ((l.length : Int) * (l.length : Int)) := by
  have s := (sq_sum_bound hb).2
  have q := sq_nonneg l.sum
  unfold spr
  have m := Int.mul_le_mul_of_nonneg_left s (show (0 : Int) ≤ (l.length : Int) by omega)
  have e : (l.length : Int) * (b * b * (l.length : Int)) = (b * b) * ((l.length : Int) * (l.length : Int)) := by
    rw [Int.mul_left_comm]
  rw [e] at m
  omega
theorem scat_bound {l : List Int} (hl : 0 < l.length) (h : ∀ x ∈ l, -99999 ≤ x ∧ x ≤ 99999) : Sh70.scatter l < 18446744073709551616 := by
  have e := scat_is hl
  have s := spr_le h
  have p : (0 : Int) < (l.length : Int) * (l.length : Int) := Int.mul_pos (by omega) (by omega)
  have m : (256 * spr l) / ((l.length : Int) * (l.length : Int)) ≤ 256 * (99999 * 99999) := by
    refine Int.ediv_le_of_le_mul p ?_
    generalize (l.length : Int) * (l.length : Int) = nn at *
    omega
  omega
end LC
namespace LC
/-! ### tables -/
theorem getD_some {α : Type} {l : List α} {i : Nat} {d x : α} (h : l[i]? = some x) : l.getD i d = x := by
  rw [List.getD_eq_getElem?_getD, h]
  rfl
theorem intAt_get {l : List Int} {i : Nat} (h : i < l.length) : l[i]? = some (Sh70.intAt l i) := by
  rw [List.getElem?_eq_getElem h]
  unfold Sh70.intAt
  rw [List.getD_eq_getElem?_getD, List.getElem?_eq_getElem h]
  rfl
theorem row_len {sc : Nat} {ns : List Int} {m i : Nat} (hl : ns.length = sc * m) (hi : i < m) : (Sh70.imageRow sc ns i).length = sc := by
  unfold Sh70.imageRow
  rw [List.length_take, List.length_drop, hl]
  have e : i * sc + sc ≤ sc * m := by
    rw [Nat.mul_comm sc m]
    calc i * sc + sc = (i + 1) * sc := by rw [Nat.succ_mul]
      _ ≤ m * sc := Nat.mul_le_mul_right _ hi
  omega
theorem row_get {sc : Nat} {ns : List Int} {m i j : Nat} (hl : ns.length = sc * m) (hi : i < m) (hj : j < sc) : (Sh70.imageRow sc ns i)[j]? = some (Sh70.intAt ns (i * sc + j)) := by
  have e : i * sc + sc ≤ sc * m := by
    rw [Nat.mul_comm sc m]
    calc i * sc + sc = (i + 1) * sc := by rw [Nat.succ_mul]
      _ ≤ m * sc := Nat.mul_le_mul_right _ hi
  unfold Sh70.imageRow
  rw [List.getElem?_take, if_pos hj, List.getElem?_drop]
  exact intAt_get (by omega)
theorem div_len {sc : Nat} {ns : List Int} {m : Nat} (h0 : 0 < sc) (hl : ns.length = sc * m) : ns.length / sc = m := by
  rw [hl]
  exact Nat.mul_div_cancel_left m h0
theorem column_is {sc : Nat} {ns : List Int} {m j : Nat} (h0 : 0 < sc) (hl : ns.length = sc * m) : Sh70.starColumn sc ns j = (List.range m).map fun i => Sh70.intAt ns (i * sc + j) := by
  unfold Sh70.starColumn
  rw [div_len h0 hl]
theorem column_len {sc : Nat} {ns : List Int} {m j : Nat} (h0 : 0 < sc) (hl : ns.length = sc * m) : (Sh70.starColumn sc ns j).length = m := by
  rw [column_is h0 hl, List.length_map, List.length_range]
theorem intAt_mem {l : List Int} {i : Nat} (h : i < l.length) : Sh70.intAt l i ∈ l := List.mem_of_getElem? (intAt_get h)
theorem cell_lt {sc m i j : Nat} (hi : i < m) (hj : j < sc) : i * sc + j < sc * m := by
  have e : i * sc + sc ≤ sc * m := by
    rw [Nat.mul_comm sc m]
    calc i * sc + sc = (i + 1) * sc := by rw [Nat.succ_mul]
      _ ≤ m * sc := Nat.mul_le_mul_right _ hi
  omega
theorem column_bound {sc : Nat} {ns : List Int} {m j : Nat} (h0 : 0 < sc) (hl : ns.length = sc * m) (hj : j < sc) (hb : ∀ x ∈ ns, -99999 ≤ x ∧ x ≤ 99999) : ∀ x ∈ Sh70.starColumn sc ns j, -99999 ≤ x ∧ x ≤ 99999 := fun x hx => by
  rw [column_is h0 hl] at hx
  obtain ⟨i, hi, rfl⟩ := List.mem_map.mp hx
  exact hb _ (intAt_mem (by rw [hl]; exact cell_lt (List.mem_range.mp hi) hj))
theorem medians_len (sc : Nat) (ns : List Int) : (Sh70.starMedians sc ns).length = sc := by
  unfold Sh70.starMedians
  rw [List.length_map, List.length_range]
theorem ext_is {sc : Nat} {ns : List Int} {m : Nat} (h0 : 0 < sc) (hl : ns.length = sc * m) :
    Sh70.extinctions sc ns = (List.range m).map fun i => Sh70.median (((Sh70.imageRow sc ns i).zip (Sh70.starMedians sc ns)).map fun p => p.1 - p.2) := by
  unfold Sh70.extinctions
  rw [div_len h0 hl]
theorem ext_len {sc : Nat} {ns : List Int} {m : Nat} (h0 : 0 < sc) (hl : ns.length = sc * m) : (Sh70.extinctions sc ns).length = m := by
  rw [ext_is h0 hl, List.length_map, List.length_range]
/-! ### corrected -/
/-- the first k images without the extinctions e -/
def corrTo (sc : Nat) (ns e : List Int) (k : Nat) : List Int := (List.range (k * sc)).map fun i => Sh70.intAt ns i - Sh70.intAt e (i / sc)
theorem corr_zero (sc : Nat) (ns e : List Int) : corrTo sc ns e 0 = [] := by
  unfold corrTo
  rw [Nat.zero_mul]
  rfl
theorem row_map {sc : Nat} {ns : List Int} {m k : Nat} (hl : ns.length = sc * m) (hk : k < m) : Sh70.imageRow sc ns k = (List.range sc).map fun j => Sh70.intAt ns (k * sc + j) := by
  apply List.ext_getElem?
  intro j
  by_cases hj : j < sc
  · rw [row_get hl hk hj, List.getElem?_map, List.getElem?_range hj]
    rfl
  · rw [List.getElem?_eq_none (by rw [row_len hl hk]; omega), List.getElem?_eq_none (by rw [List.length_map, List.length_range]; omega)]
theorem corr_step {sc : Nat} {ns e : List Int} {m k : Nat} (hl : ns.length = sc * m) (hk : k < m) : corrTo sc ns e (k + 1) = corrTo sc ns e k ++ (Sh70.imageRow sc ns k).map fun z => z - Sh70.intAt e k := by
  unfold corrTo
  rw [Nat.succ_mul, List.range_add, List.map_append, row_map hl hk, List.map_map, List.map_map]
  congr 1
  apply List.map_congr_left
  intro j hj
  have hj' := List.mem_range.mp hj
  show Sh70.intAt ns (k * sc + j) - Sh70.intAt e ((k * sc + j) / sc) = Sh70.intAt ns (k * sc + j) - Sh70.intAt e k
  have q : (k * sc + j) / sc = k := by
    rw [Nat.mul_comm k sc, Nat.mul_add_div (by omega), Nat.div_eq_of_lt hj']
    rfl
  rw [q]
theorem corr_all {sc : Nat} {ns : List Int} {m : Nat} (hl : ns.length = sc * m) : corrTo sc ns (Sh70.extinctions sc ns) m = Sh70.corrected sc ns := by
  unfold corrTo Sh70.corrected
  rw [hl, Nat.mul_comm sc m]
theorem corr_len {sc : Nat} {ns e : List Int} {k : Nat} : (corrTo sc ns e k).length = k * sc := by
  unfold corrTo
  rw [List.length_map, List.length_range]
/-! ### scatters -/
def scats (sc : Nat) (ns : List Int) : List Int := (List.range sc).map fun star => ((Sh70.scatter (Sh70.starColumn sc ns star) : Nat) : Int)
/-! ### differential magnitudes -/
def others (star : Nat) (ws : List Nat) : List (Nat × Nat) := ws.zipIdx.filter fun entry => entry.2 != star
def wTot (star : Nat) (ws : List Nat) : Int := (((others star ws).map fun entry => entry.1).sum : Nat)
def wSum (star : Nat) (row : List Int) (ws : List Nat) : Int := ((others star ws).map fun entry => (entry.1 : Int) * Sh70.intAt row entry.2).sum
theorem others_more {star i : Nat} {ws : List Nat} {w : Nat} (h : ws[i]? = some w) : others star (ws.take (i + 1)) = others star (ws.take i) ++ (if i != star then [(w, i)] else []) := by
  have hi : i < ws.length := (List.getElem?_eq_some_iff.mp h).1
  unfold others
  rw [take_more h, List.zipIdx_append, List.filter_append]
  have e : (ws.take i).length = i := by
    rw [List.length_take]
    omega
  rw [e]
  congr 1
  show List.filter (fun entry : Nat × Nat => entry.2 != star) [(w, 0 + i)] = _
  rw [Nat.zero_add, List.filter_cons]
  rfl
theorem wTot_in {star i : Nat} {ws : List Nat} {w : Nat} (h : ws[i]? = some w) (c : (i != star) = true) : wTot star (ws.take (i + 1)) = wTot star (ws.take i) + (w : Int) := by
  unfold wTot
  rw [others_more h, if_pos c, List.map_append, List.sum_append]
  show (((((others star (ws.take i)).map fun entry => entry.1).sum + ([w] : List Nat).sum : Nat)) : Int) = _
  rw [show ([w] : List Nat).sum = w by simp]
  omega
theorem wSum_in {star i : Nat} {row : List Int} {ws : List Nat} {w : Nat} (h : ws[i]? = some w) (c : (i != star) = true) : wSum star row (ws.take (i + 1)) = wSum star row (ws.take i) + (w : Int) * Sh70.intAt row i := by
  unfold wSum
  rw [others_more h, if_pos c, List.map_append, List.sum_append]
  show _ + ([(w : Int) * Sh70.intAt row i] : List Int).sum = _
  rw [List.sum_cons]
  show _ + ((w : Int) * Sh70.intAt row i + 0) = _
  omega
theorem wTot_out {star i : Nat} {ws : List Nat} {w : Nat} (h : ws[i]? = some w) (c : ¬ (i != star) = true) : wTot star (ws.take (i + 1)) = wTot star (ws.take i) := by
  unfold wTot
  rw [others_more h, if_neg c, List.append_nil]
theorem wSum_out {star i : Nat} {row : List Int} {ws : List Nat} {w : Nat} (h : ws[i]? = some w) (c : ¬ (i != star) = true) : wSum star row (ws.take (i + 1)) = wSum star row (ws.take i) := by
  unfold wSum
  rw [others_more h, if_neg c, List.append_nil]
theorem nat_sum_bound {b : Nat} : ∀ {l : List Nat}, (∀ x ∈ l, x ≤ b) → l.sum ≤ b * l.length
  | [], _ => by simp
  | x :: r, h => by
    have ih := nat_sum_bound (l := r) fun y hy => h y (List.mem_cons_of_mem _ hy)
    have h0 := h x (List.mem_cons_self ..)
    rw [List.sum_cons, List.length_cons, Nat.mul_succ]
    omega
theorem others_len (star : Nat) (ws : List Nat) : (others star ws).length ≤ ws.length := by
  unfold others
  have h := List.length_filter_le (fun entry : Nat × Nat => entry.2 != star) ws.zipIdx
  rw [List.length_zipIdx] at h
  exact h
theorem others_mem {star : Nat} {ws : List Nat} {p : Nat × Nat} (h : p ∈ others star ws) : p.1 ∈ ws := by
  have h1 := (List.mem_filter.mp h).1
  obtain ⟨x, i⟩ := p
  have h2 := List.mem_zipIdx_iff_getElem?.mp h1
  exact List.mem_of_getElem? h2
theorem wTot_bound {star : Nat} {ws : List Nat} (h : ∀ x ∈ ws, x ≤ 65535) : 0 ≤ wTot star ws ∧ wTot star ws ≤ 65535 * (ws.length : Int) := by
  have b := nat_sum_bound (b := 65535) (l := (others star ws).map fun entry => entry.1) fun x hx => by
    obtain ⟨p, hp, rfl⟩ := List.mem_map.mp hx
    exact h _ (others_mem hp)
  rw [List.length_map] at b
  have c := others_len star ws
  have d : 65535 * (others star ws).length ≤ 65535 * ws.length := Nat.mul_le_mul_left _ c
  unfold wTot
  omega
/-- the differential magnitude, as the program tells it -/
theorem diff_is (ws : List Nat) (star : Nat) (row : List Int) : Sh70.differential ws star row = if 0 < wTot star ws then Sh70.intAt row star - (2 * wSum star row ws + wTot star ws) / (2 * wTot star ws) else 0 := by
  show (if ((others star ws).map fun entry => entry.1).sum = 0 then (0 : Int) else Sh70.intAt row star - (2 * wSum star row ws + wTot star ws) / (2 * wTot star ws)) = _
  by_cases c : ((others star ws).map fun entry => entry.1).sum = 0
  · rw [if_pos c, if_neg (by unfold wTot; omega)]
  · rw [if_neg c, if_pos (by unfold wTot; omega)]
end LC
namespace LC
/-! ### what is due, by the ways of the program -/
theorem toInts_app (a b : List Nat) : Sh70Neutral.toInts (a ++ b) = Sh70Neutral.toInts a ++ Sh70Neutral.toInts b := List.map_append
section
variable {sc : Int} {ns : List Int}
theorem nat_div {n : Nat} {c : Int} (h0 : 0 ≤ c) : ((n / c.toNat : Nat) : Int) = (n : Int) / c := by
  obtain ⟨k, rfl⟩ := Int.eq_ofNat_of_zero_le h0
  exact Int.natCast_ediv n k
theorem tab_facts (h : tabOk sc (ns.length : Int) = true) : 1 ≤ sc ∧ sc ≤ 32 ∧ 1 ≤ (ns.length : Int) / sc ∧ (ns.length : Int) / sc ≤ 64 := by
  unfold tabOk at h
  simp only [Bool.and_eq_true, decide_eq_true_eq] at h
  exact ⟨h.1.1, h.1.2, h.2.1, h.2.2⟩
theorem table_of (h0 : 0 ≤ sc) : Sh70.isTableSize sc.toNat ((Sh70Neutral.toNats ns).length / sc.toNat) = tabOk sc (ns.length : Int) := by
  rw [toNats_len]
  exact tab_is h0
theorem ext_bad (h0 : 0 ≤ sc) (h : tabOk sc (ns.length : Int) = false) : PySh70.extinctions sc ns = [-2] := by
  show (match (some (if Sh70.isTableSize sc.toNat ((Sh70Neutral.toNats ns).length / sc.toNat) = true then Sh70.Call.extinctions sc.toNat (Sh70.signedWords (Sh70Neutral.toNats ns)) else .invalid) : Option Sh70.Call) with | none => [] | some parsed => Sh70Neutral.flatten (Sh70.answer parsed)) = _
  rw [table_of h0, h]
  rfl
theorem ext_mag (h0 : 0 ≤ sc) (hn : ∀ n ∈ ns, 0 ≤ n) (h : tabOk sc (ns.length : Int) = true) (hm : Sh70.areValidMagnitudes (ns.map sg) = false) : PySh70.extinctions sc ns = [-3] := by
  show (match (some (if Sh70.isTableSize sc.toNat ((Sh70Neutral.toNats ns).length / sc.toNat) = true then Sh70.Call.extinctions sc.toNat (Sh70.signedWords (Sh70Neutral.toNats ns)) else .invalid) : Option Sh70.Call) with | none => [] | some parsed => Sh70Neutral.flatten (Sh70.answer parsed)) = _
  rw [table_of h0, h, if_pos rfl, sg_words hn]
  show Sh70Neutral.flatten (if Sh70.areValidMagnitudes (ns.map sg) = false then Sh70.errorAnswer (-3) else _) = _
  rw [if_pos hm]
  rfl
theorem ext_ok (h0 : 0 ≤ sc) (hn : ∀ n ∈ ns, 0 ≤ n) (h : tabOk sc (ns.length : Int) = true) (hm : Sh70.areValidMagnitudes (ns.map sg) = true) :
    PySh70.extinctions sc ns = [0, ((Sh70.starMedians sc.toNat (ns.map sg)).length : Int)] ++ (Sh70.starMedians sc.toNat (ns.map sg)).map (fun z => z % 4294967296) ++ [((Sh70.extinctions sc.toNat (ns.map sg)).length : Int)] ++ (Sh70.extinctions sc.toNat (ns.map sg)).map fun z => z % 4294967296 := by
  show (match (some (if Sh70.isTableSize sc.toNat ((Sh70Neutral.toNats ns).length / sc.toNat) = true then Sh70.Call.extinctions sc.toNat (Sh70.signedWords (Sh70Neutral.toNats ns)) else .invalid) : Option Sh70.Call) with | none => [] | some parsed => Sh70Neutral.flatten (Sh70.answer parsed)) = _
  rw [table_of h0, h, if_pos rfl, sg_words hn]
  show Sh70Neutral.flatten (if Sh70.areValidMagnitudes (ns.map sg) = false then Sh70.errorAnswer (-3) else _) = _
  rw [if_neg (by rw [hm]; decide)]
  show (0 : Int) :: ([(Sh70.starMedians sc.toNat (ns.map sg)).map Sh70.word32, (Sh70.extinctions sc.toNat (ns.map sg)).map Sh70.word32].flatMap fun output : List Nat => ((output.length : Nat) : Int) :: Sh70Neutral.toInts output) = _
  simp only [List.flatMap_cons, List.flatMap_nil, List.append_nil, w32, List.length_map, List.cons_append, List.nil_append, List.append_assoc]
theorem cor_bad (h0 : 0 ≤ sc) (h : tabOk sc (ns.length : Int) = false) : PySh70.corrected_magnitudes sc ns = [-2] := by
  show (match (some (if Sh70.isTableSize sc.toNat ((Sh70Neutral.toNats ns).length / sc.toNat) = true then Sh70.Call.corrected sc.toNat (Sh70.signedWords (Sh70Neutral.toNats ns)) else .invalid) : Option Sh70.Call) with | none => [] | some parsed => Sh70Neutral.flatten (Sh70.answer parsed)) = _
  rw [table_of h0, h]
  rfl
theorem cor_mag (h0 : 0 ≤ sc) (hn : ∀ n ∈ ns, 0 ≤ n) (h : tabOk sc (ns.length : Int) = true) (hm : Sh70.areValidMagnitudes (ns.map sg) = false) : PySh70.corrected_magnitudes sc ns = [-3] := by
  show (match (some (if Sh70.isTableSize sc.toNat ((Sh70Neutral.toNats ns).length / sc.toNat) = true then Sh70.Call.corrected sc.toNat (Sh70.signedWords (Sh70Neutral.toNats ns)) else .invalid) : Option Sh70.Call) with | none => [] | some parsed => Sh70Neutral.flatten (Sh70.answer parsed)) = _
  rw [table_of h0, h, if_pos rfl, sg_words hn]
  show Sh70Neutral.flatten (if Sh70.areValidMagnitudes (ns.map sg) = false then Sh70.errorAnswer (-3) else _) = _
  rw [if_pos hm]
  rfl
theorem cor_ok (h0 : 0 ≤ sc) (hn : ∀ n ∈ ns, 0 ≤ n) (h : tabOk sc (ns.length : Int) = true) (hm : Sh70.areValidMagnitudes (ns.map sg) = true) :
    PySh70.corrected_magnitudes sc ns = [0] ++ (Sh70.corrected sc.toNat (ns.map sg)).map fun z => z % 4294967296 := by
  show (match (some (if Sh70.isTableSize sc.toNat ((Sh70Neutral.toNats ns).length / sc.toNat) = true then Sh70.Call.corrected sc.toNat (Sh70.signedWords (Sh70Neutral.toNats ns)) else .invalid) : Option Sh70.Call) with | none => [] | some parsed => Sh70Neutral.flatten (Sh70.answer parsed)) = _
  rw [table_of h0, h, if_pos rfl, sg_words hn]
  show Sh70Neutral.flatten (if Sh70.areValidMagnitudes (ns.map sg) = false then Sh70.errorAnswer (-3) else _) = _
  rw [if_neg (by rw [hm]; decide)]
  show (0 : Int) :: Sh70Neutral.toInts ((Sh70.corrected sc.toNat (ns.map sg)).map Sh70.word32) = _
  rw [w32]
  rfl
theorem sca_bad (h0 : 0 ≤ sc) (h : tabOk sc (ns.length : Int) = false) : PySh70.scatters sc ns = [-2] := by
  show (match (some (if Sh70.isTableSize sc.toNat ((Sh70Neutral.toNats ns).length / sc.toNat) = true then Sh70.Call.scatters sc.toNat (Sh70.signedWords (Sh70Neutral.toNats ns)) else .invalid) : Option Sh70.Call) with | none => [] | some parsed => Sh70Neutral.flatten (Sh70.answer parsed)) = _
  rw [table_of h0, h]
  rfl
theorem sca_mag (h0 : 0 ≤ sc) (hn : ∀ n ∈ ns, 0 ≤ n) (h : tabOk sc (ns.length : Int) = true) (hm : Sh70.areValidMagnitudes (ns.map sg) = false) : PySh70.scatters sc ns = [-3] := by
  show (match (some (if Sh70.isTableSize sc.toNat ((Sh70Neutral.toNats ns).length / sc.toNat) = true then Sh70.Call.scatters sc.toNat (Sh70.signedWords (Sh70Neutral.toNats ns)) else .invalid) : Option Sh70.Call) with | none => [] | some parsed => Sh70Neutral.flatten (Sh70.answer parsed)) = _
  rw [table_of h0, h, if_pos rfl, sg_words hn]
  show Sh70Neutral.flatten (if Sh70.areValidMagnitudes (ns.map sg) = false then Sh70.errorAnswer (-3) else _) = _
  rw [if_pos hm]
  rfl
theorem scats_bound {c : Nat} {l : List Int} {m : Nat} (h0 : 0 < c) (h1 : 0 < m) (hl : l.length = c * m) (hb : ∀ x ∈ l, -99999 ≤ x ∧ x ≤ 99999) : ∀ z ∈ scats c l, 0 ≤ z ∧ z < 18446744073709551616 := fun z hz => by
  obtain ⟨star, hs, rfl⟩ := List.mem_map.mp hz
  have hs' := List.mem_range.mp hs
  have b := scat_bound (l := Sh70.starColumn c l star) (by rw [column_len h0 hl]; exact h1) (column_bound h0 hl hs' hb)
  omega
theorem scats_get {c : Nat} {l : List Int} {star : Nat} (h : star < c) : (scats c l)[star]? = some ((Sh70.scatter (Sh70.starColumn c l star) : Nat) : Int) := by
  unfold scats
  rw [List.getElem?_map, List.getElem?_range h]
  rfl
theorem map_mod {l : List Int} {b : Int} (h : ∀ z ∈ l, 0 ≤ z ∧ z < b) : l.map (fun z => z % b) = l := by
  have e : l.map (fun z => z % b) = l.map id := List.map_congr_left fun z hz => Int.emod_eq_of_lt (h z hz).1 (h z hz).2
  rw [e, List.map_id]
theorem sca_ok (h0 : 0 ≤ sc) (hn : ∀ n ∈ ns, 0 ≤ n) (h : tabOk sc (ns.length : Int) = true) (hm : Sh70.areValidMagnitudes (ns.map sg) = true) :
    PySh70.scatters sc ns = [0] ++ scats sc.toNat (ns.map sg) := by
  show (match (some (if Sh70.isTableSize sc.toNat ((Sh70Neutral.toNats ns).length / sc.toNat) = true then Sh70.Call.scatters sc.toNat (Sh70.signedWords (Sh70Neutral.toNats ns)) else .invalid) : Option Sh70.Call) with | none => [] | some parsed => Sh70Neutral.flatten (Sh70.answer parsed)) = _
  rw [table_of h0, h, if_pos rfl, sg_words hn]
  show Sh70Neutral.flatten (if Sh70.areValidMagnitudes (ns.map sg) = false then Sh70.errorAnswer (-3) else _) = _
  rw [if_neg (by rw [hm]; decide)]
  show (0 : Int) :: Sh70Neutral.toInts ((List.range sc.toNat).map fun star => Sh70.scatter (Sh70.starColumn sc.toNat (ns.map sg) star)) = _
  unfold scats Sh70Neutral.toInts
  rw [List.map_map]
  rfl
/-! variable stars -/
theorem var_bad {fa : Int} (h0 : 0 ≤ sc) (hf : 0 ≤ fa) (h : (tabOk sc (ns.length : Int) && decide (fa ≤ 65535)) = false) : PySh70.variable_stars sc fa ns = [-2] := by
  show (match (some (if (Sh70.isTableSize sc.toNat ((Sh70Neutral.toNats ns).length / sc.toNat) && decide (fa.toNat ≤ 65535)) = true then Sh70.Call.variableStars fa.toNat sc.toNat (Sh70.signedWords (Sh70Neutral.toNats ns)) else .invalid) : Option Sh70.Call) with | none => [] | some parsed => Sh70Neutral.flatten (Sh70.answer parsed)) = _
  rw [table_of h0, show decide (fa.toNat ≤ 65535) = decide (fa ≤ 65535) from decide_eq_decide.mpr (by omega), h]
  rfl
theorem var_mag {fa : Int} (h0 : 0 ≤ sc) (hf : 0 ≤ fa) (hn : ∀ n ∈ ns, 0 ≤ n) (h : (tabOk sc (ns.length : Int) && decide (fa ≤ 65535)) = true) (hm : Sh70.areValidMagnitudes (ns.map sg) = false) : PySh70.variable_stars sc fa ns = [-3] := by
  show (match (some (if (Sh70.isTableSize sc.toNat ((Sh70Neutral.toNats ns).length / sc.toNat) && decide (fa.toNat ≤ 65535)) = true then Sh70.Call.variableStars fa.toNat sc.toNat (Sh70.signedWords (Sh70Neutral.toNats ns)) else .invalid) : Option Sh70.Call) with | none => [] | some parsed => Sh70Neutral.flatten (Sh70.answer parsed)) = _
  rw [table_of h0, show decide (fa.toNat ≤ 65535) = decide (fa ≤ 65535) from decide_eq_decide.mpr (by omega), h, if_pos rfl, sg_words hn]
  show Sh70Neutral.flatten (if Sh70.areValidMagnitudes (ns.map sg) = false then Sh70.errorAnswer (-3) else _) = _
  rw [if_pos hm]
  rfl
/-- the variable stars, as the program tells them -/
def varsI (fa sc : Nat) (l : List Int) : List Int := (Sh70.variableStars fa sc l).map fun star : Nat => (star : Int)
theorem vars_is (fa sc : Nat) (l : List Int) : Sh70.variableStars fa sc l = (List.range sc).filter fun star => decide ((fa : Int) * max 1 (Sh70.median (scats sc l)) < Sh70.intAt (scats sc l) star) := rfl
theorem var_ok {fa : Int} (h0 : 0 ≤ sc) (hf : 0 ≤ fa) (hn : ∀ n ∈ ns, 0 ≤ n) (h : (tabOk sc (ns.length : Int) && decide (fa ≤ 65535)) = true) (hm : Sh70.areValidMagnitudes (ns.map sg) = true) :
    PySh70.variable_stars sc fa ns = [((varsI fa.toNat sc.toNat (ns.map sg)).length : Int)] ++ varsI fa.toNat sc.toNat (ns.map sg) := by
  show (match (some (if (Sh70.isTableSize sc.toNat ((Sh70Neutral.toNats ns).length / sc.toNat) && decide (fa.toNat ≤ 65535)) = true then Sh70.Call.variableStars fa.toNat sc.toNat (Sh70.signedWords (Sh70Neutral.toNats ns)) else .invalid) : Option Sh70.Call) with | none => [] | some parsed => Sh70Neutral.flatten (Sh70.answer parsed)) = _
  rw [table_of h0, show decide (fa.toNat ≤ 65535) = decide (fa ≤ 65535) from decide_eq_decide.mpr (by omega), h, if_pos rfl, sg_words hn]
  show Sh70Neutral.flatten (if Sh70.areValidMagnitudes (ns.map sg) = false then Sh70.errorAnswer (-3) else _) = _
  rw [if_neg (by rw [hm]; decide)]
  show ((Sh70.variableStars fa.toNat sc.toNat (ns.map sg)).length : Int) :: Sh70Neutral.toInts (Sh70.variableStars fa.toNat sc.toNat (ns.map sg)) = _
  unfold varsI
  rw [List.length_map]
  rfl
end
/-! ### the length of a table that is asked -/
theorem len_asked {sc : Int} {ns : List Int} (h0 : 0 ≤ sc) (h : tabOk sc (ns.length : Int) = true) (ha : (ns.length == (sc.toNat * ((Sh70Neutral.toNats ns).length / sc.toNat))) = true) : ns.length = sc.toNat * (ns.length / sc.toNat) := by
  rw [toNats_len] at ha
  exact eq_of_beq ha
/-- what a table that is in order has: m images -/
structure TabIs (sc : Int) (ns : List Int) (c m : Nat) : Prop where
  sc : sc = (c : Int)
  c0 : 0 < c
  c32 : c ≤ 32
  m0 : 0 < m
  m64 : m ≤ 64
  len : ns.length = c * m
theorem tab_get {sc : Int} {ns : List Int} (h0 : 0 ≤ sc) (h : tabOk sc (ns.length : Int) = true) (ha : (ns.length == (sc.toNat * ((Sh70Neutral.toNats ns).length / sc.toNat))) = true) : TabIs sc ns sc.toNat (ns.length / sc.toNat) := by
  obtain ⟨h1, h2, h3, h4⟩ := tab_facts h
  have e := nat_div (n := ns.length) h0
  exact ⟨by omega, by omega, by omega, by omega, by omega, len_asked h0 h ha⟩
end LC
namespace LC
/-! ### what is asked of a table -/
theorem tab_asked_of {sc : Int} {ns : List Int} {b d : Bool} (h0 : 0 ≤ sc) (h : (if Sh70.isTableSize sc.toNat ((Sh70Neutral.toNats ns).length / sc.toNat) = true then ns.length == (sc.toNat * ((Sh70Neutral.toNats ns).length / sc.toNat)) else d) = true) (ht : tabOk sc (ns.length : Int) = true) : ns.length = sc.toNat * (ns.length / sc.toNat) := by
  rw [table_of h0, if_pos ht] at h
  exact len_asked h0 ht h
theorem ext_asked {sc : Int} {ns : List Int} (h0 : 0 ≤ sc) (h : PySh70.extinctions_asked sc ns = true) : tabOk sc (ns.length : Int) = true → ns.length = sc.toNat * (ns.length / sc.toNat) := by
  have h' : ((Sh70Neutral.fits sc 32 && (Sh70Neutral.allFit ns 32 && ((if (Sh70.isTableSize (sc.toNat) (((Sh70Neutral.toNats ns).length / sc.toNat))) = true then ns.length == (sc.toNat * ((Sh70Neutral.toNats ns).length / sc.toNat)) else ((ns.isEmpty) || (ns.length == (sc.toNat * ((Sh70Neutral.toNats ns).length / sc.toNat)))))))) && decide ((Sh70Neutral.f [[0, sc], ns]).length < 1000000)) = true := h
  rw [Bool.and_eq_true, Bool.and_eq_true, Bool.and_eq_true] at h'
  exact tab_asked_of (b := true) h0 h'.1.2.2
theorem cor_asked {sc : Int} {ns : List Int} (h0 : 0 ≤ sc) (h : PySh70.corrected_magnitudes_asked sc ns = true) : tabOk sc (ns.length : Int) = true → ns.length = sc.toNat * (ns.length / sc.toNat) := by
  have h' : ((Sh70Neutral.fits sc 32 && (Sh70Neutral.allFit ns 32 && ((if (Sh70.isTableSize (sc.toNat) (((Sh70Neutral.toNats ns).length / sc.toNat))) = true then ns.length == (sc.toNat * ((Sh70Neutral.toNats ns).length / sc.toNat)) else ((ns.isEmpty) || (ns.length == (sc.toNat * ((Sh70Neutral.toNats ns).length / sc.toNat)))))))) && decide ((Sh70Neutral.f [[1, sc], ns]).length < 1000000)) = true := h
  rw [Bool.and_eq_true, Bool.and_eq_true, Bool.and_eq_true] at h'
  exact tab_asked_of (b := true) h0 h'.1.2.2
theorem sca_asked {sc : Int} {ns : List Int} (h0 : 0 ≤ sc) (h : PySh70.scatters_asked sc ns = true) : tabOk sc (ns.length : Int) = true → ns.length = sc.toNat * (ns.length / sc.toNat) := by
  have h' : ((Sh70Neutral.fits sc 32 && (Sh70Neutral.allFit ns 32 && ((if (Sh70.isTableSize (sc.toNat) (((Sh70Neutral.toNats ns).length / sc.toNat))) = true then ns.length == (sc.toNat * ((Sh70Neutral.toNats ns).length / sc.toNat)) else ((ns.isEmpty) || (ns.length == (sc.toNat * ((Sh70Neutral.toNats ns).length / sc.toNat)))))))) && decide ((Sh70Neutral.f [[2, sc], ns]).length < 1000000)) = true := h
  rw [Bool.and_eq_true, Bool.and_eq_true, Bool.and_eq_true] at h'
  exact tab_asked_of (b := true) h0 h'.1.2.2
theorem var_asked {sc fa : Int} {ns : List Int} (h0 : 0 ≤ sc) (hf : 0 ≤ fa) (h : PySh70.variable_stars_asked sc fa ns = true) : (tabOk sc (ns.length : Int) && decide (fa ≤ 65535)) = true → ns.length = sc.toNat * (ns.length / sc.toNat) := fun ht => by
  have h' : ((Sh70Neutral.fits sc 32 && (Sh70Neutral.fits fa 32 && (Sh70Neutral.allFit ns 32 && ((if (Sh70.isTableSize (sc.toNat) (((Sh70Neutral.toNats ns).length / sc.toNat)) && decide (fa.toNat ≤ 65535)) = true then ns.length == (sc.toNat * ((Sh70Neutral.toNats ns).length / sc.toNat)) else ((ns.isEmpty) || (ns.length == (sc.toNat * ((Sh70Neutral.toNats ns).length / sc.toNat))))))))) && decide ((Sh70Neutral.f [[4, sc, fa], ns]).length < 1000000)) = true := h
  rw [Bool.and_eq_true, Bool.and_eq_true, Bool.and_eq_true, Bool.and_eq_true] at h'
  have h2 := h'.1.2.2.2
  rw [table_of h0, show decide (fa.toNat ≤ 65535) = decide (fa ≤ 65535) from decide_eq_decide.mpr (by omega), if_pos ht] at h2
  rw [Bool.and_eq_true] at ht
  exact len_asked h0 ht.1 h2
/-- .. with weights -/
theorem dif_asked {sc star : Int} {ws ns : List Int} (h0 : 0 ≤ sc) (h : PySh70.differential_magnitudes_asked sc star ws ns = true) (ht : tabOk sc (ns.length : Int) = true) : ws.length = sc.toNat ∧ ns.length = sc.toNat * (ns.length / sc.toNat) := by
  have h' : ((Sh70Neutral.fits sc 32 && (Sh70Neutral.fits star 32 && (Sh70Neutral.allFit ws 32 && (Sh70Neutral.allFit ns 32 && ((if (Sh70.isTableSize (sc.toNat) (((Sh70Neutral.toNats ns).length / sc.toNat))) = true then ws.length == (sc.toNat) && ns.length == (sc.toNat * ((Sh70Neutral.toNats ns).length / sc.toNat)) else ((ws.isEmpty && ns.isEmpty) || (ws.length == (sc.toNat) && ns.length == (sc.toNat * ((Sh70Neutral.toNats ns).length / sc.toNat)))))))))) && decide ((Sh70Neutral.f [[3, sc, star], ws, ns]).length < 1000000)) = true := h
  rw [Bool.and_eq_true, Bool.and_eq_true, Bool.and_eq_true, Bool.and_eq_true, Bool.and_eq_true] at h'
  have h2 := h'.1.2.2.2.2
  rw [table_of h0, if_pos ht, Bool.and_eq_true] at h2
  exact ⟨eq_of_beq h2.1, len_asked h0 ht h2.2⟩
end LC
set_option Elab.async false
set_option maxRecDepth 100000
set_option maxHeartbeats 2000000
namespace LC
open PySem PySem.Spec PyProof.Rows L2 Evl
/-! ### whole numbers of the module's top -/
def GI (mg : Str → Option Value) (x : Str) (n : Int) : Prop := ∃ t, mg x = some (.int n t)
theorem pe_gi {X : Cx} {x : Str} {n : Int} {pos : Pos} (hg : Gl X x) (h : GI X.mg x n) (hd : (x == ("__debug__" : Str)) = false := by decide) : PE X (.Name x pos) (tC (.int n)) := by
  obtain ⟨t, e⟩ := h
  exact pe_glob hg e ⟨t, rfl⟩ hd
theorem small {n m : Nat} (h : Nat.ble n m = true := by rfl) : n ≤ m := Nat.le_of_ble_eq_true h
theorem nt {b : Bool} (h : (!b) = true) : b = false := by
  cases b with
  | true => cases h
  | false => rfl
theorem nf {b : Bool} (h : (!b) = false) : b = true := by
  cases b with
  | true => rfl
  | false => cases h
/-! ### what evaluates to a value of which P holds -/
def EvP (te : TE) (σ : L2.St) (H : Hp) (P : V → Hp → Prop) : Prop := ∀ H1, Ex H H1 → ∀ Q : VK, (∀ v H2, Ex H1 H2 → P v H2 → Q v H2) → te σ H1 Q
/-- what stays while all that was known stays -/
def Stays (P : V → Hp → Prop) : Prop := ∀ v H H', Ex H H' → P v H → P v H'
def RetP (P : V → Hp → Prop) (H : Hp) (Q : VK) : Prop := ∀ v H2, Ex H H2 → P v H2 → Q v H2
section
variable {K : PySem.W.Frag} {σ : L2.St} {H H' : Hp} {ta tb te tx : TE} {t u : TT} {x y z v : V} {r : R2} {P : V → Hp → Prop}
theorem EvP.mono (e : Ex H H') (h : EvP te σ H P) : EvP te σ H' P := fun H1 a Q q => h H1 (e.trans a) Q q
theorem ep_imp {P' : V → Hp → Prop} (h : EvP te σ H P) (k : ∀ v H', Ex H H' → P v H' → P' v H') : EvP te σ H P' := fun H1 e Q q => h H1 e Q fun v H2 e2 p => q v H2 e2 (k v H2 (e.trans e2) p)
theorem ep_v (h : Ev te σ H v) : EvP te σ H fun z _ => z = v := fun H1 e Q q => h H1 e Q fun H2 e2 => q v H2 e2 rfl
theorem ep_l {xs : List V} (h : EvL te σ H xs) : EvP te σ H fun z H' => ∃ p, z = .ref p ∧ H' p = some (.lst xs) := fun H1 e Q q => h H1 e Q fun p H2 _ e2 hp => q (.ref p) H2 e2 ⟨p, rfl, hp⟩
/-- an argument of which P holds, then a call on values -/
theorem ep_cb1 {r : List V → Hp → VK → Prop} {P' : V → Hp → Prop} (h : EvP te σ H P) (hr : ∀ v H1, Ex H H1 → P v H1 → ∀ Q : VK, (∀ z H2, Ex H1 H2 → P' z H2 → Q z H2) → r [v] H1 Q) : EvP (tCB r (tCons te tNil)) σ H P' := fun H1 e Q q =>
  h H1 e _ fun v H2 e2 p => hr v H2 (e.trans e2) p Q fun z H3 e3 p' => q z H3 (e2.trans e3) p'
theorem ev_cb1 {r : List V → Hp → VK → Prop} (h : EvP te σ H P) (hr : ∀ v H1, Ex H H1 → P v H1 → ∀ Q : VK, (∀ H2, Ex H1 H2 → Q z H2) → r [v] H1 Q) : Ev (tCB r (tCons te tNil)) σ H z := fun H1 e Q q =>
  h H1 e _ fun v H2 e2 p => hr v H2 (e.trans e2) p Q fun H3 e3 => q H3 (e2.trans e3)
/-- a def's call on one argument of which P holds -/
theorem ev_call1 {sp : Sp} {E : XK} (h : EvP te σ H P) (hr : ∀ v H1, Ex H H1 → P v H1 → ∀ Q : VK, RetV z H1 Q → sp [v] H1 Q E) : Ev (tCall sp [] E (tCons te tNil)) σ H z := fun H1 e Q q =>
  h H1 e _ fun v H2 e2 p => hr v H2 (e.trans e2) p Q fun H3 e3 => q H3 (e2.trans e3)
theorem el_call1 {sp : Sp} {E : XK} {xs : List V} (h : EvP te σ H P) (hr : ∀ v H1, Ex H H1 → P v H1 → ∀ Q : VK, RetL xs H1 Q → sp [v] H1 Q E) : EvL (tCall sp [] E (tCons te tNil)) σ H xs := fun H1 e Q q =>
  h H1 e _ fun v H2 e2 p => hr v H2 (e.trans e2) p Q fun q2 H3 hp e3 h3 => q q2 H3 (fresh_back e2 hp) (e2.trans e3) h3
/-- a def's call on values -/
theorem ev_callA {sp : Sp} {E : XK} {ta : TA} {vs : List V} (h : EvA ta σ H vs) (hr : ∀ H1, Ex H H1 → ∀ Q : VK, RetV z H1 Q → sp vs H1 Q E) : Ev (tCall sp [] E ta) σ H z := fun H1 e Q q =>
  h H1 e _ fun H2 e2 => by
    have k := hr H2 (e.trans e2) Q fun H3 e3 => q H3 (e2.trans e3)
    show sp (vs ++ []) H2 Q E
    rw [List.append_nil]
    exact k
theorem el_callA {sp : Sp} {E : XK} {ta : TA} {vs xs : List V} (h : EvA ta σ H vs) (hr : ∀ H1, Ex H H1 → ∀ Q : VK, RetL xs H1 Q → sp vs H1 Q E) : EvL (tCall sp [] E ta) σ H xs := fun H1 e Q q =>
  h H1 e _ fun H2 e2 => by
    have k := hr H2 (e.trans e2) Q fun q2 H3 hp e3 h3 => q q2 H3 (fresh_back e2 hp) (e2.trans e3) h3
    show sp (vs ++ []) H2 Q E
    rw [List.append_nil]
    exact k
theorem ep_callA {sp : Sp} {E : XK} {ta : TA} {vs : List V} {P' : V → Hp → Prop} (h : EvA ta σ H vs) (hr : ∀ H1, Ex H H1 → ∀ Q : VK, RetP P' H1 Q → sp vs H1 Q E) : EvP (tCall sp [] E ta) σ H P' := fun H1 e Q q =>
  h H1 e _ fun H2 e2 => by
    have k := hr H2 (e.trans e2) Q fun v H3 e3 p => q v H3 (e2.trans e3) p
    show sp (vs ++ []) H2 Q E
    rw [List.append_nil]
    exact k
/-! ### statements -/
variable {D : Ends} {tu tw tz : TS}
theorem s_retP (h : EvP te σ H P) (k : RetP P H D.rt) : tRet te D σ H := h H (Ex.refl H) _ k
theorem q_asgP {i : Nat} (h : EvP te σ H P) (k : ∀ v H1, Ex H H1 → P v H1 → tz D (σ.set i (some v)) H1) : tSeq (tAsg te (gName i)) tz D σ H := h H (Ex.refl H) _ k
theorem retP_mono {Q : VK} (k : RetP P H Q) (e : Ex H H') : RetP P H' Q := fun v H2 e2 p => k v H2 (e.trans e2) p
theorem retV_mono {Q : VK} (k : RetV v H Q) (e : Ex H H') : RetV v H' Q := fun H2 e2 => k H2 (e.trans e2)
theorem retL_mono {Q : VK} {xs : List V} (k : RetL xs H Q) (e : Ex H H') : RetL xs H' Q := fun p H2 hp e2 h => k p H2 (fresh_back e hp) (e.trans e2) h
/-! ### a list of whole numbers, made turn by turn -/
theorem given_all (n : Nat) (g : Nat → V) : given n (fun _ => true) g = (List.range n).map g := by
  unfold given
  rw [List.filter_eq_self.mpr fun _ _ => rfl]
theorem et_yes : EvT tYes σ H true := fun H1 _ _ q => q H1 (Ex.refl H1)
/-- [e for x in xs] over a list of whole numbers, each a whole number by g -/
theorem el_ints {a : Addr} {ns : List Int} {tl : TE} {j : Nat} {vs : List Nat} (g : Int → Int) (h : Ev tl σ H (.ref a)) (hx : SqL K H a (ns.map V.int)) (hz : ns.length ≤ 40000) (hw : ∀ x, wipe ((wipe σ vs).set j (some x)) vs = wipe σ vs)
    (he : ∀ n H1, Ex H H1 → n ∈ ns → Ev te ((wipe σ vs).set j (some (.int n))) H1 (.int (g n))) : EvL (tLc (iList K tl) (gName j) tYes te vs) σ H ((ns.map g).map V.int) := by
  have k := el_lcL (K := K) (te := te) (t := tYes) (vs := vs) (j := j) (fun _ => true) (fun i => V.int (g (ns.getD i 0))) h hx (by rw [List.length_map]; exact hz) hw (fun _ _ _ _ _ => et_yes) fun i x H1 e hi _ => by
    obtain ⟨n, hn, rfl⟩ : ∃ n, ns[i]? = some n ∧ x = V.int n := by
      rw [List.getElem?_map] at hi
      cases q : ns[i]? with
      | none =>
        rw [q] at hi
        cases hi
      | some n =>
        rw [q] at hi
        exact ⟨n, rfl, (Option.some.inj hi).symm⟩
    have q : ns.getD i 0 = n := by
      rw [List.getD_eq_getElem?_getD, hn]
      rfl
    rw [q]
    exact he n H1 e (List.mem_of_getElem? hn)
  rw [given_all, List.length_map] at k
  have e : (List.range ns.length).map (fun i => V.int (g (ns.getD i 0))) = (ns.map g).map V.int := by
    apply List.ext_getElem?
    intro i
    rw [List.getElem?_map, List.getElem?_map, List.getElem?_map]
    by_cases c : i < ns.length
    · rw [List.getElem?_range c, List.getElem?_eq_getElem c]
      show some (V.int (g (ns.getD i 0))) = some (V.int (g ns[i]))
      rw [List.getD_eq_getElem?_getD, List.getElem?_eq_getElem c]
      rfl
    · rw [List.getElem?_eq_none (by rw [List.length_range]; omega), List.getElem?_eq_none (by omega)]
      rfl
  rw [e] at k
  exact k
/-! ### chains, sums of lists, calls on a new list -/
theorem ev_chain {r' : R2} {tc : TE} {k1 k2 : Bool} (ha : Ev ta σ H x) (hb : Ev tb σ H y) (h1 : RV r x y H (.bl k1)) (hc : k1 = true → Ev tc σ H z) (h2 : k1 = true → RV r' y z H (.bl k2)) : Ev (tChain r r' ta tb tc) σ H (.bl (k1 && k2)) := fun H1 e Q q =>
  ha H1 e _ fun H2 e2 => hb H2 (e.trans e2) _ fun H3 e3 => h1 H3 ((e.trans e2).trans e3) _ fun H4 e4 => ⟨k1, rfl, by
    cases k1 with
    | true =>
      show tc σ H4 fun w' H5 => r' y w' H5 Q
      exact hc rfl H4 (((e.trans e2).trans e3).trans e4) _ fun H5 e5 => h2 rfl H5 ((((e.trans e2).trans e3).trans e4).trans e5) Q fun H6 e6 => q H6 ((((e2.trans e3).trans e4).trans e5).trans e6)
    | false =>
      show Q (.bl false) H4
      exact q H4 ((e2.trans e3).trans e4)⟩
/-- a <= b <= c of whole numbers -/
theorem ev_between {tc : TE} {i j k : Int} (ha : Ev ta σ H (.int i)) (hb : Ev tb σ H (.int j)) (hc : Ev tc σ H (.int k)) : Ev (tChain (rI0 fun i j => .bl (decide (i ≤ j))) (rI0 fun i j => .bl (decide (i ≤ j))) ta tb tc) σ H (.bl (decide (i ≤ j) && decide (j ≤ k))) :=
  ev_chain ha hb rv_I0 (fun _ => hc) (fun _ => rv_I0)
theorem el_cat {xs ys : List V} (ha : EvL ta σ H xs) (hb : EvL tb σ H ys) (hl : xs.length + ys.length ≤ 100000) : EvL (tOp rCat ta tb) σ H (xs ++ ys) := fun H1 e Q q =>
  ha H1 e _ fun p H2 hp e2 h2 => hb H2 (e.trans e2) _ fun p' H3 _ e3 h3 => ⟨p, p', xs, ys, rfl, rfl, e3 p _ h2, h3, sz_of hl, fun d hd =>
    q d _ (fresh_back (e2.trans e3) hd) ((e2.trans e3).trans (Ex.new hd)) upd_same⟩
/-- a def called on a new list, handing back a new list | a value -/
theorem el_callL {sp : Sp} {E : XK} {xs ys : List V} (h : EvL te σ H xs) (hr : ∀ p H1, Ex H H1 → H1 p = some (.lst xs) → ∀ Q : VK, RetL ys H1 Q → sp [.ref p] H1 Q E) : EvL (tCall sp [] E (tCons te tNil)) σ H ys := fun H1 e Q q =>
  h H1 e _ fun p H2 _ e2 hp => hr p H2 (e.trans e2) hp Q fun p' H3 hp' e3 h3 => q p' H3 (fresh_back e2 hp') (e2.trans e3) h3
theorem ev_callL {sp : Sp} {E : XK} {xs : List V} (h : EvL te σ H xs) (hr : ∀ p H1, Ex H H1 → H1 p = some (.lst xs) → ∀ Q : VK, RetV z H1 Q → sp [.ref p] H1 Q E) : Ev (tCall sp [] E (tCons te tNil)) σ H z := fun H1 e Q q =>
  h H1 e _ fun p H2 _ e2 hp => hr p H2 (e.trans e2) hp Q fun H3 e3 => q H3 (e2.trans e3)
theorem sq_new {p : Addr} {xs : List V} (h : H p = some (.lst xs)) : SqL K H p xs := .inl (.inl h)
/-- (a, b, ..) = a new list: the names hold its items -/
theorem q_unl {n : Nat} {t : TGs} {xs : List V} (h : EvL te σ H xs) (hn : xs.length = n) (k : ∀ H1, Ex H H1 → t xs σ H1 fun σ' H' => tz D σ' H') : tSeq (tAsg te (gUnl K n t)) tz D σ H := h H (Ex.refl H) _ fun p H1 _ e hp => ⟨p, xs, rfl, .inl (.inl hp), hn, k H1 e⟩
theorem int1 {z : Int} : ([z].map V.int) = [V.int z] := rfl
end
end LC
set_option Elab.async false
set_option maxRecDepth 100000
set_option maxHeartbeats 2000000
namespace LC
open PySem PySem.Spec PyProof.Rows L2 Evl
/-! ### what a for or a comprehension walks: n turns, what each gives -/
def EvW (wi : TI) (σ : L2.St) (H : Hp) (n : Nat) (Y : Nat → Hp → V → Hp → Prop) : Prop := ∀ H1, Ex H H1 → ∀ R : It → Hp → Prop, (∀ (J : It) (H2 : Hp) (G : Hp → Prop), Ex H1 H2 → Walk J n G Y → (∀ H3, Ex H2 H3 → G H3) → R J H2) → wi σ H1 R
/-- the objects at qs are os -/
def ObjsAt (H : Hp) (qs : List Addr) (os : List HO) : Prop := qs.length = os.length ∧ ∀ (i : Nat) (q : Addr) (o : HO), qs[i]? = some q → os[i]? = some o → H q = some o
theorem ObjsAt.mono {H H' : Hp} {qs : List Addr} {os : List HO} (h : ObjsAt H qs os) (e : Ex H H') : ObjsAt H' qs os := ⟨h.1, fun i q o a b => e _ _ (h.2 i q o a b)⟩
theorem ObjsAt.get {H : Hp} {qs : List Addr} {os : List HO} {i : Nat} {o : HO} (h : ObjsAt H qs os) (ho : os[i]? = some o) : ∃ q, qs[i]? = some q ∧ H q = some o := by
  have hi : i < os.length := (List.getElem?_eq_some_iff.mp ho).1
  have hq : i < qs.length := by rw [h.1]; exact hi
  exact ⟨qs[i], List.getElem?_eq_getElem hq, h.2 i _ o (List.getElem?_eq_getElem hq) ho⟩
theorem ObjsAt.at {H : Hp} {qs : List Addr} {os : List HO} {i : Nat} {x : V} (h : ObjsAt H qs os) (hx : (qs.map V.ref)[i]? = some x) : ∃ q o, x = .ref q ∧ qs[i]? = some q ∧ os[i]? = some o ∧ H q = some o := by
  rw [List.getElem?_map] at hx
  cases e : qs[i]? with
  | none =>
    rw [e] at hx
    cases hx
  | some q =>
    rw [e] at hx
    have hi : i < qs.length := (List.getElem?_eq_some_iff.mp e).1
    have ho : i < os.length := by rw [← h.1]; exact hi
    exact ⟨q, os[i], (Option.some.inj hx).symm, rfl, List.getElem?_eq_getElem ho, h.2 i q _ e (List.getElem?_eq_getElem ho)⟩
/-- a new object of the content o -/
def EvO (te : TE) (σ : L2.St) (H : Hp) (o : HO) : Prop := ∀ H1, Ex H H1 → ∀ Q : VK, (∀ p H2, H1 p = none → Ex H1 H2 → H2 p = some o → Q (.ref p) H2) → te σ H1 Q
theorem eo_l {te : TE} {σ : L2.St} {H : Hp} {xs : List V} (h : EvL te σ H xs) : EvO te σ H (.lst xs) := h
theorem eo_u {te : TE} {σ : L2.St} {H : Hp} {xs : List V} (h : EvU te σ H xs) : EvO te σ H (.tup xs) := h
/-- what is handed on: a new list of new objects, no two alike -/
def RetOs (os : List HO) (H : Hp) (Q : VK) : Prop := ∀ (p : Addr) (qs : List Addr) (H2 : Hp), H p = none → Ex H H2 → H2 p = some (.lst (qs.map V.ref)) → ObjsAt H2 qs os → (∀ q ∈ qs, H q = none ∧ q ≠ p) → qs.Nodup → Q (.ref p) H2
theorem retOs_mono {os : List HO} {H H' : Hp} {Q : VK} (k : RetOs os H Q) (e : Ex H H') : RetOs os H' Q := fun p qs H2 hp e2 h1 h2 h3 h4 => k p qs H2 (fresh_back e hp) (e.trans e2) h1 h2 (fun q m => ⟨fresh_back e (h3 q m).1, (h3 q m).2⟩) h4
def EvOs (te : TE) (σ : L2.St) (H : Hp) (os : List HO) : Prop := ∀ H1, Ex H H1 → ∀ Q : VK, RetOs os H1 Q → te σ H1 Q
section
variable {K : PySem.W.Frag} {σ : L2.St} {H H' : Hp} {ta tb te tx tl : TE} {t u : TT} {x y z v : V} {r : R2} {P : V → Hp → Prop} {n : Nat} {Y : Nat → Hp → V → Hp → Prop} {wi : TI} {g : TG} {vs : List Nat} {a b : Addr} {xs ys : List V}
theorem EvW.mono (h : EvW wi σ H n Y) (e : Ex H H') : EvW wi σ H' n Y := fun H1 a R k => h H1 (e.trans a) R k
theorem ew_list (h : Ev tl σ H (.ref a)) (hx : SqL K H a xs) : EvW (iList K tl) σ H xs.length (YAt xs) := fun H1 e R k => h H1 e _ fun H2 e2 =>
  ⟨a, rfl, ⟨xs, ex_l (e.trans e2) hx⟩, k _ H2 _ e2 walk_list fun _ e3 => ex_l ((e.trans e2).trans e3) hx⟩
theorem ew_listL (h : EvL tl σ H xs) : EvW (iList K tl) σ H xs.length (YAt xs) := fun H1 e R k => h H1 e _ fun p H2 _ e2 hp =>
  ⟨p, rfl, ⟨xs, sq_new hp⟩, k _ H2 _ e2 walk_list fun _ e3 => ex_l e3 (sq_new hp)⟩
theorem ew_rng1 {ta : TA} {m : Int} (h : EvA ta σ H [.int m]) (h0 : 0 ≤ m ∧ m ≤ 1000000) : EvW (iRng1 ta) σ H m.toNat (YFn fun i => .int (i : Int)) := fun H1 e R k => h H1 e _ fun H2 e2 =>
  ⟨m, rfl, by omega, by omega, k _ H2 (fun _ => True) e2 ((walk_range (lo := 0) (n := m.toNat)).mono (fun _ z => z) fun i H x H' _ _ yy => ⟨yy.1, yy.2.trans (congrArg V.int (Int.zero_add _))⟩) fun _ _ => True.intro⟩
theorem ew_rng2 {ta : TA} {lo m : Int} (h : EvA ta σ H [.int lo, .int m]) (h0 : 0 ≤ lo ∧ lo ≤ 1000000 ∧ 0 ≤ m ∧ m ≤ 1000000) : EvW (iRng2 ta) σ H (m - lo).toNat (YFn fun i => .int (lo + (i : Int))) := fun H1 e R k => h H1 e _ fun H2 e2 =>
  ⟨lo, m, rfl, ⟨by omega, by omega, by omega, by omega⟩, k _ H2 (fun _ => True) e2 walk_range fun _ _ => True.intro⟩
theorem ew_rng3 {ta : TA} {i j c : Int} (h : EvA ta σ H [.int i, .int j, .int c]) (h0 : RgC i j c n) : EvW (iRng3 ta) σ H n (YFn fun k => .int (i + (k : Nat) * c)) := fun H1 e R k => h H1 e _ fun H2 e2 =>
  ⟨i, j, c, n, rfl, h0, k _ H2 (fun _ => True) e2 walk_rangeC fun _ _ => True.intro⟩
theorem ew_enum {ta : TA} (h : EvA ta σ H [.ref a]) (hx : SqL K H a xs) : EvW (iEnum K ta) σ H xs.length (YPair (fun i => some (.int (i : Nat))) fun i => xs[i]?) := fun H1 e R k => h H1 e _ fun H2 e2 =>
  ⟨a, xs, rfl, ex_l (e.trans e2) hx, k _ H2 _ e2 walk_enum fun _ e3 => ex_l ((e.trans e2).trans e3) hx⟩
theorem ew_zip {ta : TA} (h : EvA ta σ H [.ref a, .ref b]) (hx : SqL K H a xs) (hy : SqL K H b ys) (hn : n = min xs.length ys.length) : EvW (iZip K ta) σ H n (YPair (fun i => xs[i]?) fun i => ys[i]?) := fun H1 e R k => h H1 e _ fun H2 e2 =>
  ⟨a, b, xs, ys, rfl, ex_l (e.trans e2) hx, ex_l (e.trans e2) hy, k _ H2 _ e2 (walk_zip hn) fun _ e3 => ⟨ex_l ((e.trans e2).trans e3) hx, ex_l ((e.trans e2).trans e3) hy⟩⟩
/-! ### comprehensions -/
/-- each item a value; with tests -/
theorem el_lcW (f : Nat → Bool) (v : Nat → V) (hw : EvW wi σ H n Y) (hn : n < 50000)
    (he : ∀ i x H1 H2, i < n → Ex H H1 → Y i H1 x H2 → ∀ Qg : L2.St → Hp → Prop, (∀ σ2 H3, wipe σ2 vs = wipe σ vs → Ex H1 H3 → EvT t σ2 H3 (f i) → (f i = true → Ev te σ2 H3 (v i)) → Qg σ2 H3) → g x (wipe σ vs) H2 Qg) : EvL (tLc wi g t te vs) σ H (given n f v) := fun H1 e Q q =>
  hw H1 e _ fun J H2 G e2 w hG Dl hD => by
    refine lc_it w (fun i H' => H2 Dl = none ∧ Ex H2 H' ∧ H' Dl = some (.lst (given i f v))) ⟨hD, Ex.new hD, upd_same⟩ (fun i H' _ p => hG H' p.2.1) (fun i x H3 H4 hi p yy => ?_) fun H' p => q Dl H' (fresh_back e2 p.1) (e2.trans p.2.1) p.2.2
    obtain ⟨p1, p2, p3⟩ := p
    refine he i x H3 H4 hi ((e.trans e2).trans p2) yy _ fun σ2 H5 hwp e5 ht hv => ⟨hwp, ?_⟩
    refine ht H5 (Ex.refl H5) _ fun H6 e6 => ?_
    cases hf : f i with
    | true =>
      show te σ2 H6 _
      refine hv hf H6 e6 _ fun H7 e7 => ⟨given i f v, e7 Dl _ (e6 Dl _ (e5 Dl _ p3)), sz_lt (by have := given_len i f v; omega), p1, Ex.mut (((p2.trans e5).trans e6).trans e7) p1, ?_⟩
      rw [given_yes hf]
      exact upd_same
    | false =>
      show H2 Dl = none ∧ Ex H2 H6 ∧ H6 Dl = some (.lst (given (i + 1) f v))
      refine ⟨p1, (p2.trans e5).trans e6, ?_⟩
      rw [given_no hf]
      exact e6 Dl _ (e5 Dl _ p3)
/-- .. without tests -/
theorem el_lcV (v : Nat → V) (hw : EvW wi σ H n Y) (hn : n < 50000)
    (he : ∀ i x H1 H2, i < n → Ex H H1 → Y i H1 x H2 → ∀ Qg : L2.St → Hp → Prop, (∀ σ2 H3, wipe σ2 vs = wipe σ vs → Ex H1 H3 → Ev te σ2 H3 (v i) → Qg σ2 H3) → g x (wipe σ vs) H2 Qg) : EvL (tLc wi g tYes te vs) σ H ((List.range n).map v) := by
  have k := el_lcW (te := te) (t := tYes) (g := g) (vs := vs) (fun _ => true) v hw hn fun i x H1 H2 hi e yy Qg q => he i x H1 H2 hi e yy Qg fun σ2 H3 a b c => q σ2 H3 a b et_yes fun _ => c
  rw [given_all] at k
  exact k
theorem nodup_snoc {l : List Addr} {a : Addr} (h : l.Nodup) (ha : a ∉ l) : (l ++ [a]).Nodup := by
  rw [List.nodup_append]
  refine ⟨h, List.nodup_cons.mpr ⟨by simp, List.nodup_nil⟩, fun x hx y hy => ?_⟩
  have e : y = a := by simpa using hy
  rw [e]
  intro z
  rw [z] at hx
  exact ha hx
/-- each item a new object -/
theorem eos_lc {os : List HO} (hw : EvW wi σ H os.length Y) (hn : os.length ≤ 90000)
    (he : ∀ i x o H1 H2, os[i]? = some o → Ex H H1 → Y i H1 x H2 → ∀ Qg : L2.St → Hp → Prop, (∀ σ2 H3, wipe σ2 vs = wipe σ vs → Ex H1 H3 → EvO te σ2 H3 o → Qg σ2 H3) → g x (wipe σ vs) H2 Qg) : EvOs (tLc wi g tYes te vs) σ H os := fun H1 e Q q =>
  hw H1 e _ fun J H2 G e2 w hG Dl hD => by
    refine lc_it w (fun i H' => i ≤ os.length ∧ Ex H2 H' ∧ ∃ qs : List Addr, H' Dl = some (.lst (qs.map V.ref)) ∧ qs.length = i ∧ (∀ (j : Nat) (q : Addr) (o : HO), qs[j]? = some q → os[j]? = some o → H' q = some o) ∧ (∀ q ∈ qs, H2 q = none ∧ q ≠ Dl) ∧ qs.Nodup)
      ⟨Nat.zero_le _, Ex.new hD, [], upd_same, rfl, fun j q o h => by simp at h, fun q h => absurd h (by simp), List.nodup_nil⟩ (fun i H' _ p => hG H' p.2.1) (fun i x H3 H4 hi p yy => ?_) fun H' p => ?_
    · obtain ⟨_, e3, qs, hp, hl, ho, hf, hd⟩ := p
      have go := List.getElem?_eq_getElem hi
      refine he i x _ H3 H4 go ((e.trans e2).trans e3) yy _ fun σ2 H5 hwp e5 hev => ⟨hwp, ?_⟩
      show te σ2 H5 _
      refine hev H5 (Ex.refl H5) _ fun a H6 ha e6 h6 => ⟨qs.map V.ref, e6 _ _ (e5 _ _ hp), sz_lt (by rw [List.length_map, hl]; omega), hi, Ex.mut ((e3.trans e5).trans e6) hD, qs ++ [a], ?_, ?_, ?_, ?_, ?_⟩
      · rw [upd_same, List.map_append]
        rfl
      · rw [List.length_append, hl]
        rfl
      · have nD : a ≠ Dl := fun z => by
          rw [z, e5 _ _ hp] at ha
          cases ha
        intro j b o hb hob
        by_cases c : j < qs.length
        · rw [List.getElem?_append_left c] at hb
          have m := hf b (List.mem_of_getElem? hb)
          rw [upd_ne m.2]
          exact e6 _ _ (e5 _ _ (ho j b o hb hob))
        · have cj : j = qs.length := by
            have h2 := (List.getElem?_eq_some_iff.mp hb).1
            rw [List.length_append] at h2
            have : ([a] : List Addr).length = 1 := rfl
            omega
          rw [cj, List.getElem?_append_right (Nat.le_refl _), Nat.sub_self] at hb
          have eb : a = b := Option.some.inj hb
          rw [← eb, upd_ne nD, h6, ← hob, cj, hl]
          exact go.symm
      · intro b hb
        rcases List.mem_append.mp hb with m | m
        · exact hf b m
        · have eb : b = a := by simpa using m
          rw [eb]
          refine ⟨fresh_back (e3.trans e5) ha, fun z => ?_⟩
          rw [z, e5 _ _ hp] at ha
          cases ha
      · refine nodup_snoc hd fun m => ?_
        obtain ⟨j, hj⟩ := List.getElem?_of_mem m
        have hj2 : j < os.length := by
          have := (List.getElem?_eq_some_iff.mp hj).1
          omega
        have z := e5 _ _ (ho j a _ hj (List.getElem?_eq_getElem hj2))
        rw [ha] at z
        cases z
    · obtain ⟨_, e3, qs, hp, hl, ho, hf, hd⟩ := p
      exact q Dl qs H' (fresh_back e2 hD) (e2.trans e3) hp ⟨hl, ho⟩ (fun b m => ⟨fresh_back e2 (hf b m).1, (hf b m).2⟩) hd
end
end LC
set_option Elab.async false
set_option maxRecDepth 100000
set_option maxHeartbeats 2000000
namespace LC
open PySem PySem.Spec PyProof.Rows L2 Evl
/-- the heap without what stands at d -/
def hide (H : Hp) (d : Addr) : Hp := fun b => if b = d then none else H b
theorem hide_at (H : Hp) (d : Addr) : hide H d d = none := if_pos rfl
theorem hide_of {H : Hp} {d b : Addr} {o : HO} (h : H b = some o) (n : b ≠ d) : hide H d b = some o := (if_neg n).trans h
theorem hide_ex (H : Hp) (d : Addr) : Ex (hide H d) H := fun b o h => by
  unfold hide at h
  by_cases c : b = d
  · rw [if_pos c] at h
    cases h
  · rw [if_neg c] at h
    exact h
section
variable {K : PySem.W.Frag} {σ : L2.St} {H H' : Hp} {ta tb te tx tl : TE} {t u : TT} {x y z v : V} {r : R2} {P : V → Hp → Prop} {n : Nat} {Y : Nat → Hp → V → Hp → Prop} {wi : TI} {g : TG} {vs : List Nat} {a b : Addr} {xs ys : List V}
/-- [e for x in xs] over a list of whole numbers, each a value by g -/
theorem el_vals {ns : List Int} {j : Nat} (g : Int → V) (h : Ev tl σ H (.ref a)) (hx : SqL K H a (ns.map V.int)) (hz : ns.length ≤ 40000) (hw : ∀ x, wipe ((wipe σ vs).set j (some x)) vs = wipe σ vs)
    (he : ∀ n H1, Ex H H1 → n ∈ ns → Ev te ((wipe σ vs).set j (some (.int n))) H1 (g n)) : EvL (tLc (iList K tl) (gName j) tYes te vs) σ H (ns.map g) := by
  have hwk := ew_list (K := K) h hx
  rw [List.length_map] at hwk
  have k := el_lcV (te := te) (g := gName j) (vs := vs) (fun i => g (ns.getD i 0)) hwk (by omega) fun i y H1 H2 hi e yy Qg q => by
    obtain ⟨rfl, hy⟩ := yy
    obtain ⟨n, hn, rfl⟩ := map_get hy
    refine q _ _ (hw _) (Ex.refl _) ?_
    have e2 : ns.getD i 0 = n := getD_some hn
    show Ev te _ _ (g (ns.getD i 0))
    rw [e2]
    exact he n _ e (List.mem_of_getElem? hn)
  have e : (List.range ns.length).map (fun i => g (ns.getD i 0)) = ns.map g := by
    apply List.ext_getElem?
    intro i
    rw [List.getElem?_map, List.getElem?_map]
    by_cases c : i < ns.length
    · rw [List.getElem?_range c, List.getElem?_eq_getElem c]
      show some (g (ns.getD i 0)) = some (g ns[i])
      rw [List.getD_eq_getElem?_getD, List.getElem?_eq_getElem c]
      rfl
    · rw [List.getElem?_eq_none (by rw [List.length_range]; omega), List.getElem?_eq_none (by omega)]
      rfl
  rw [e] at k
  exact k
/-- xs.extend(ys), ys a new list -/
theorem s_ext {D : Ends} {i : Nat} {l : Addr} (hl : H l = some (.lst xs)) (hi : σ[i]? = some (some (.ref l))) (h : EvL te σ H ys) (hz : xs.length + ys.length ≤ 100000) (k : ∀ H1, Ex H H1 → D.nx σ (upd H1 l (.lst (xs ++ ys)))) : tDrop (tBM K "list" rExtend (tVar i) (tCons te tNil)) D σ H :=
  ⟨_, hi, Or.inl ⟨rfl, xs, sq_of hl⟩, h H (Ex.refl H) _ fun p H2 _ e2 h2 => ⟨l, p, xs, ys, rfl, rfl, e2 l _ hl, h2, sz_of hz, k H2 e2⟩⟩
/-- sorted(xs) -/
theorem el_sorted {ns : List Int} (h : Ev ta σ H (.ref a)) (hx : SqL K H a (ns.map V.int)) : EvL (tCB (rSortedI K) (tCons ta tNil)) σ H ((ns.mergeSort fun x y => decide (x ≤ y)).map V.int) := fun H1 e Q q => h H1 e _ fun H2 e2 =>
  ⟨a, ns, rfl, ex_l (e.trans e2) hx, fun ns' p hp hs hn => by
    have k := q p (upd H2 p (.lst (ns'.map V.int))) (fresh_back e2 hn) (e2.trans (Ex.new hn))
    rw [← PySem.W.os_sorted_mergeSort hp hs] at k
    exact k upd_same⟩
/-- all(xs), sum(xs) of a new list -/
theorem ev_allN {bs : List Bool} (h : EvL ta σ H (bs.map V.bl)) : Ev (tCB (rAll K) (tCons ta tNil)) σ H (.bl (bs.all id)) := fun H1 e Q q => h H1 e _ fun p H2 _ e2 hp => ⟨p, bs, rfl, sq_new hp, q H2 e2⟩
theorem ev_sumN {ns : List Int} (h : EvL ta σ H (ns.map V.int)) : Ev (tCB (rSum K) (tCons ta tNil)) σ H (.int ns.sum) := fun H1 e Q q => h H1 e _ fun p H2 _ e2 hp => ⟨p, ns, rfl, sq_new hp, q H2 e2⟩
theorem ev_sum {ns : List Int} (h : Ev ta σ H (.ref a)) (hx : SqL K H a (ns.map V.int)) : Ev (tCB (rSum K) (tCons ta tNil)) σ H (.int ns.sum) := fun H1 e Q q => h H1 e _ fun H2 e2 => ⟨a, ns, rfl, ex_l (e.trans e2) hx, q H2 e2⟩
/-- abs(n) -/
theorem ev_abs {i : Int} (h : Ev ta σ H (.int i)) : Ev (tCB (fun xs H Q => ∃ i : Int, xs = [.int i] ∧ Q (.int (if i < 0 then -i else i)) H) (tCons ta tNil)) σ H (.int (if i < 0 then -i else i)) := fun H1 e Q q => h H1 e _ fun H2 e2 => ⟨i, rfl, q H2 e2⟩
/-- xs[i] of a new list, a list that stands, a tuple -/
theorem ev_ixN {tb : TE} {i : Int} (h : EvL ta σ H xs) (hb : ∀ H1, Ex H H1 → Ev tb σ H1 (.int i)) (hi : atI xs i = some v) : Ev (tOp (rIxL K) ta tb) σ H v := ev_opL1 h hb fun p H1 hp _ => rv_ixL (sq_new hp) hi
/-- o.f -/
theorem ev_fld {C dx : Addr} {fs : List (Str × V)} {f : Str} (h : Ev ta σ H (.ref a)) (ha : H a = some (.ins C dx fs)) (hc : Cls K C) (hn : NoAttr K C f) (hv : fs.lookup f = some v) : Ev (tFld K ta f) σ H v := fun H1 e Q q => h H1 e _ fun H2 e2 =>
  ⟨a, C, dx, fs, v, rfl, (e.trans e2) _ _ ha, hc, hn, hv, q H2 e2⟩
/-- o.m(..), handing back a value | a new list -/
theorem ev_meth {C dx : Addr} {fs : List (Str × V)} {m : Str} {sp : Sp} {E : XK} {t : TA} {ws : List V} (h : Ev ta σ H (.ref a)) (ha : H a = some (.ins C dx fs)) (hm : fs.lookup m = none) (ht : EvA t σ H ws) (hr : ∀ H1, Ex H H1 → ∀ Q : VK, RetV z H1 Q → sp (.ref a :: ws) H1 Q E) : Ev (tMeth C m sp [] E ta t) σ H z := fun H1 e Q q =>
  h H1 e _ fun H2 e2 => ⟨a, dx, fs, rfl, (e.trans e2) _ _ ha, hm, ht H2 (e.trans e2) _ fun H3 e3 => by
    have k := hr H3 ((e.trans e2).trans e3) Q fun H4 e4 => q H4 ((e2.trans e3).trans e4)
    show sp (.ref a :: (ws ++ [])) H3 Q E
    rw [List.append_nil]
    exact k⟩
theorem el_meth {C dx : Addr} {fs : List (Str × V)} {m : Str} {sp : Sp} {E : XK} {t : TA} {ws : List V} (h : Ev ta σ H (.ref a)) (ha : H a = some (.ins C dx fs)) (hm : fs.lookup m = none) (ht : EvA t σ H ws) (hr : ∀ H1, Ex H H1 → ∀ Q : VK, RetL xs H1 Q → sp (.ref a :: ws) H1 Q E) : EvL (tMeth C m sp [] E ta t) σ H xs := fun H1 e Q q =>
  h H1 e _ fun H2 e2 => ⟨a, dx, fs, rfl, (e.trans e2) _ _ ha, hm, ht H2 (e.trans e2) _ fun H3 e3 => by
    have k := hr H3 ((e.trans e2).trans e3) Q fun p H4 hp e4 h4 => q p H4 (fresh_back (e2.trans e3) hp) ((e2.trans e3).trans e4) h4
    show sp (.ref a :: (ws ++ [])) H3 Q E
    rw [List.append_nil]
    exact k⟩
/-- a call with one argument a new list, others ahead and behind: the argument's evaluation is told by hand -/
theorem ea_consP {tr : TA} {P' : List V → Hp → Prop} (h : EvL te σ H xs) (hr : ∀ p H1, Ex H H1 → H1 p = some (.lst xs) → ∀ Q : List V → Hp → Prop, (∀ ws H2, Ex H1 H2 → P' (.ref p :: ws) H2 → Q ws H2) → tr σ H1 Q) :
    ∀ H1, Ex H H1 → ∀ Q : List V → Hp → Prop, (∀ ws H2, Ex H1 H2 → P' ws H2 → Q ws H2) → tCons te tr σ H1 Q := fun H1 e Q q =>
  h H1 e _ fun p H2 _ e2 hp => hr p H2 (e.trans e2) hp _ fun ws H3 e3 hP => q _ H3 (e2.trans e3) hP
/-- x, y = e1, e2 -/
theorem q_par {i j : Nat} {tz : TS} {D : Ends} {t : TA} (h : EvA t σ H [x, y]) (k : ∀ H1, Ex H H1 → tz D ((σ.set i (some x)).set j (some y)) H1) : tSeq (tPar i j t) tz D σ H := h H (Ex.refl H) _ fun H1 e => ⟨x, y, rfl, k H1 e⟩
/-- (a, b, ..) = a new tuple: the names hold its items -/
theorem q_untup {n : Nat} {t : TGs} {tz : TS} {D : Ends} (h : EvU te σ H xs) (hn : xs.length = n) (k : ∀ H1, Ex H H1 → t xs σ H1 fun σ' H' => tz D σ' H') : tSeq (tAsg te (gTup K n t)) tz D σ H := h H (Ex.refl H) _ fun p H1 _ e hp => ⟨p, xs, rfl, .inl (.inl hp), hn, k H1 e⟩
/-- both new lists -/
theorem q_parLL {i j : Nat} {tz : TS} {D : Ends} (ha : EvL ta σ H xs) (hb : EvL tb σ H ys) (k : ∀ p p' H1, Ex H H1 → H1 p = some (.lst xs) → H1 p' = some (.lst ys) → tz D ((σ.set i (some (.ref p))).set j (some (.ref p'))) H1) : tSeq (tPar i j (tCons ta (tCons tb tNil))) tz D σ H :=
  ha H (Ex.refl H) _ fun p H1 _ e1 hp => hb H1 e1 _ fun p' H2 _ e2 hp' => ⟨_, _, rfl, k p p' H2 (e1.trans e2) (e2 _ _ hp) hp'⟩
/-- o.f = e -/
theorem s_fldV {i : Nat} {C dx : Addr} {fs : List (Str × V)} {f : Str} {D : Ends} (h : Ev te σ H v) (hi : σ[i]? = some (some (.ref a))) (ha : H a = some (.ins C dx fs)) (hc : Cls K C) (hn : NoAttr K C f) (hl : fs.length < 1000) (k : ∀ H2, Ex H H2 → D.nx σ (upd H2 a (.ins C dx (putF f v fs)))) : sFld K (tVar i) te f D σ H :=
  h H (Ex.refl H) _ fun H2 e2 => ⟨_, hi, a, C, dx, fs, rfl, e2 _ _ ha, hc, hn, hl, k H2 e2⟩
theorem s_fldL {i : Nat} {C dx : Addr} {fs : List (Str × V)} {f : Str} {D : Ends} (h : EvL te σ H xs) (hi : σ[i]? = some (some (.ref a))) (ha : H a = some (.ins C dx fs)) (hc : Cls K C) (hn : NoAttr K C f) (hl : fs.length < 1000)
    (k : ∀ p H2, H p = none → Ex H H2 → H2 p = some (.lst xs) → D.nx σ (upd H2 a (.ins C dx (putF f (.ref p) fs)))) : sFld K (tVar i) te f D σ H :=
  h H (Ex.refl H) _ fun p H2 hp e2 h1 => ⟨_, hi, a, C, dx, fs, rfl, e2 _ _ ha, hc, hn, hl, k p H2 hp e2 h1⟩
theorem s_fldOs {i : Nat} {C dx : Addr} {fs : List (Str × V)} {f : Str} {D : Ends} {os : List HO} (h : EvOs te σ H os) (hi : σ[i]? = some (some (.ref a))) (ha : H a = some (.ins C dx fs)) (hc : Cls K C) (hn : NoAttr K C f) (hl : fs.length < 1000)
    (k : ∀ (p : Addr) (qs : List Addr) (H2 : Hp), H p = none → Ex H H2 → H2 p = some (.lst (qs.map V.ref)) → ObjsAt H2 qs os → (∀ q ∈ qs, H q = none ∧ q ≠ p) → qs.Nodup → D.nx σ (upd H2 a (.ins C dx (putF f (.ref p) fs)))) : sFld K (tVar i) te f D σ H :=
  h H (Ex.refl H) _ fun p qs H2 hp e2 h1 h2 h3 h4 => ⟨_, hi, a, C, dx, fs, rfl, e2 _ _ ha, hc, hn, hl, k p qs H2 hp e2 h1 h2 h3 h4⟩
/-- xs + ys, ys a list that stands -/
theorem el_catV {p : Addr} (ha : EvL ta σ H xs) (hb : Ev tb σ H (.ref p)) (hp : H p = some (.lst ys)) (hl : xs.length + ys.length ≤ 100000) : EvL (tOp rCat ta tb) σ H (xs ++ ys) := fun H1 e Q q =>
  ha H1 e _ fun d H2 _ e2 h2 => hb H2 (e.trans e2) _ fun H3 e3 => ⟨d, p, xs, ys, rfl, rfl, e3 d _ h2, ((e.trans e2).trans e3) _ _ hp, sz_of hl, fun r hr => q r _ (fresh_back (e2.trans e3) hr) ((e2.trans e3).trans (Ex.new hr)) upd_same⟩
/-- f(e, ..), e told by a predicate, the rest values -/
theorem el_callP {sp : Sp} {E : XK} {tr : TA} {ws : List V} (h : EvP te σ H P) (ht : EvA tr σ H ws) (hr : ∀ v H1 H2, Ex H H1 → P v H1 → Ex H1 H2 → ∀ Q : VK, RetL xs H2 Q → sp (v :: ws) H2 Q E) : EvL (tCall sp [] E (tCons te tr)) σ H xs := fun H1 e Q q =>
  h H1 e _ fun v H2 e2 p => ht H2 (e.trans e2) _ fun H3 e3 => by
    have k := hr v H2 H3 (e.trans e2) p e3 Q fun d H4 hd e4 h4 => q d H4 (fresh_back (e2.trans e3) hd) ((e2.trans e3).trans e4) h4
    show sp ((v :: ws) ++ []) H3 Q E
    rw [List.append_nil]
    exact k
/-- max(m, n) -/
theorem ev_max {i j : Int} (ha : Ev ta σ H (.int i)) (hb : Ev tb σ H (.int j)) : Ev (tCB rMax2 (tCons ta (tCons tb tNil))) σ H (.int (max i j)) := ev_is (ev_max2 ha hb) (congrArg V.int (by omega))
/-- for target in .., nothing known is changed -/
theorem s_forW {tu : TS} {D : Ends} (hw : EvW wi σ H n Y) (Pv : Hp → Nat → L2.St → Hp → Prop) (h0 : ∀ H1, Ex H H1 → Pv H1 0 σ H1) (hG : ∀ H1 i σ' H', Pv H1 i σ' H' → Ex H1 H')
    (hs : ∀ H0 i x σ' H1 H2, Ex H H0 → i < n → Pv H0 i σ' H1 → Y i H1 x H2 → g x σ' H2 fun σ2 H3 => tu { D with nx := Pv H0 (i + 1), ct := Pv H0 (i + 1), bk := D.nx } σ2 H3) (hd : ∀ H0 σ' H', Ex H H0 → Pv H0 n σ' H' → D.nx σ' H') : tFor wi g tu D σ H :=
  hw H (Ex.refl H) _ fun J H0 G e w q => for_it w (Pv H0) (h0 H0 e) (fun i σ' H' _ p => q H' (hG H0 i σ' H' p)) (fun i x σ' H1 H2 hi p yy => hs H0 i x σ' H1 H2 e hi p yy) fun σ' H' p => hd H0 σ' H' e p
theorem q_forW {tu tz : TS} {D : Ends} (hw : EvW wi σ H n Y) (Pv : Hp → Nat → L2.St → Hp → Prop) (h0 : ∀ H1, Ex H H1 → Pv H1 0 σ H1) (hG : ∀ H1 i σ' H', Pv H1 i σ' H' → Ex H1 H')
    (hs : ∀ H0 i x σ' H1 H2, Ex H H0 → i < n → Pv H0 i σ' H1 → Y i H1 x H2 → g x σ' H2 fun σ2 H3 => tu { D with nx := Pv H0 (i + 1), ct := Pv H0 (i + 1), bk := tz D } σ2 H3) (hd : ∀ H0 σ' H', Ex H H0 → Pv H0 n σ' H' → tz D σ' H') : tSeq (tFor wi g tu) tz D σ H :=
  s_forW (D := { D with nx := tz D }) hw Pv h0 hG hs hd
/-- for a, b in zip(xs, ys), ys new; the body may change what it likes but the two -/
theorem q_forZip {tu tz : TS} {D : Ends} (hn : n = min xs.length ys.length) (h1 : Ev ta σ H (.ref a)) (hx : SqL K H a xs) (h2 : EvL tb σ H ys)
    (k : ∀ (b : Addr) (H1 : Hp), Ex H H1 → H b = none → H1 b = some (.lst ys) → ∃ Pv : Nat → L2.St → Hp → Prop, Pv 0 σ H1 ∧ (∀ i σ' H', Pv i σ' H' → SqL K H' a xs ∧ SqL K H' b ys) ∧
      (∀ i x σ' H2 H3, i < n → Pv i σ' H2 → YPair (fun i => xs[i]?) (fun i => ys[i]?) i H2 x H3 → g x σ' H3 fun σ2 H4 => tu { D with nx := Pv (i + 1), ct := Pv (i + 1), bk := tz D } σ2 H4) ∧ (∀ σ' H', Pv n σ' H' → tz D σ' H')) : tSeq (tFor (iZip K (tCons ta (tCons tb tNil))) g tu) tz D σ H :=
  h1 H (Ex.refl H) _ fun H1 e1 => h2 H1 e1 _ fun b H2 nb e2 hb => by
    obtain ⟨Pv, p0, pG, ps, pd⟩ := k b H2 (e1.trans e2) (fresh_back e1 nb) hb
    exact ⟨a, b, xs, ys, rfl, ex_l (e1.trans e2) hx, sq_new hb, for_it (D := { D with nx := tz D }) (walk_zip hn) Pv p0 (fun i σ' H' _ p => pG i σ' H' p) ps pd⟩
end
/-! ### chunks -/
theorem rgC_table {c m : Nat} (hc : 0 < c) (hc2 : c ≤ 32) (hm : m ≤ 64) : RgC 0 ((c * m : Nat) : Int) (c : Int) m := by
  have e : Builtin.Range.rangeSize 0 ((c * m : Nat) : Int) (c : Int) = (m : Int) := by
    rw [rangeSize_pos (by omega) (by omega)]
    have h : ((c * m : Nat) : Int) + (c : Int) - 1 = ((c * m + (c - 1) : Nat) : Int) := by omega
    rw [h, ← Int.natCast_ediv, Nat.mul_add_div hc, Nat.div_eq_of_lt (by omega)]
    rfl
  have b : c * m ≤ 32 * 64 := Nat.mul_le_mul hc2 hm
  refine ⟨by omega, by omega, ?_, e⟩
  unfold Builtin.Range.small
  rw [e]
  generalize c * m = k at b
  simp only [Builtin.Range.rangeFitsLong, Bool.and_eq_true, Bool.or_eq_true, decide_eq_true_eq, beq_iff_eq]
  have h0 : (c : Int) > 0 := by omega
  rw [if_pos h0]
  simp only [Bool.and_eq_true, decide_eq_true_eq]
  omega
end LC
namespace LC
open PySem PySem.Spec PyProof.Rows L2 Evl
open PySem.W (WData Codec)
/-! ### the request -/
section
variable {K : PySem.W.Frag} {H : Hp} {x : V} {xs : List V}
theorem dw_int {i : Int} (h : Dw K H x (.int i)) : x = .int i := by
  cases h
  rfl
theorem dw_list {ns : List Int} (h : Dw K H x (.list (ns.map WData.int))) : ∃ a, x = .ref a ∧ SqL K H a (ns.map V.int) := by
  cases h with
  | lst hs ha =>
    rw [ints_dw ns _ ha] at hs
    exact ⟨_, rfl, hs⟩
theorem dw_cons {d : WData} {ds : List WData} (h : DwAll K H xs (d :: ds)) : ∃ x r, xs = x :: r ∧ Dw K H x d ∧ DwAll K H r ds := by
  cases h with
  | cons h1 h2 => exact ⟨_, _, rfl, h1, h2⟩
theorem dw_nil (h : DwAll K H xs []) : xs = [] := by
  cases h
  rfl
/-- the answer: a new list of whole numbers -/
theorem dw_ans {ns : List Int} {p : Addr} {H' : Hp} (h : H' p = some (.lst (ns.map V.int))) : Dw K H' (.ref p) (.list (ns.map WData.int)) := .lst (L2.SqL.of h) (L2.dw_ints _)
/-- a whole number of 32 bits -/
def u32 (n : Int) : Prop := 0 ≤ n ∧ n ≤ 4294967295
theorem u32_of {n : Int} (h : Codec.inInt 0 4294967295 n = true) : u32 n := Codec.inInt_iff.mp h
/-- a list of such -/
def u32s (most : Nat) (ns : List Int) : Prop := ns.length ≤ most ∧ ∀ n ∈ ns, u32 n
theorem u32s_of {most : Nat} {ns : List Int} (h : (Codec.inLen 0 most ns && ns.all (Codec.inInt 0 4294967295)) = true) : u32s most ns := by
  rw [Bool.and_eq_true] at h
  exact ⟨(Codec.inNat_iff.mp h.1).2, fun n hn => u32_of (List.all_eq_true.mp h.2 n hn)⟩
end
end LC
set_option Elab.async false
set_option maxRecDepth 100000
set_option maxHeartbeats 2000000
namespace LC
open PySem PySem.Spec PyProof.Rows L2 Evl
/-- the i-th statement of the program's text -/
def top (i : Nat) : Stmt := PySem.Challenge.pw_lightcurves_s05_variable_stars.main.body.getD i (.Pass ⟨0, 0, 0, 0⟩)
section
variable {P : Program} {w : World} {K : PySem.W.Frag} {mg : Str → Option Value} {base : Heap}
/-! ### signed -/
abbrev sSigned : Stmt := top 4
theorem scSigned : FnScope ["number"] ["number"] (defScope sSigned) := ⟨rfl, rfl, rfl, by decide +kernel, rfl, by decide +kernel, by decide +kernel⟩
def spSigned : Sp := fun vs H Q _ => ∃ n : Int, vs = [.int n] ∧ RetV (.int (sg n)) H Q
theorem ok_signed {f : Addr} {fd : FuncData} (F : Fun K "signed" "signed" sSigned f fd) (gS : GI mg "SMALL" 4294967296) : FnOk P w K mg base CX0 1 f fd ["number"] spSigned := by
  refine F.ok scSigned (fun vs H Q E h => ?_) (fun cdv A outer s H vs Q E hr h => ?_)
  · obtain ⟨n, rfl, _⟩ := h
    rfl
  · obtain ⟨n, rfl, k⟩ := h
    refine ⟨_, pss_one (ps_ret (pe_ifExp (pt_cmpR op_ge (pv 0) (pe_op op_fdiv (pe_gi rfl gS) pe_int) (nomark _)) (pe_op op_sub (pv 0) (pe_gi rfl gS)) (pv 0))), ?_⟩
    refine s_ret (v := .int (sg n)) (ev_if (et_test (ev_op (ev_var rfl) (ev_op ev_c ev_c (rv_I ⟨by decide, by decide⟩)) rv_I0)) (fun c => ?_) (fun c => ?_)) k
    · have c' : (4294967296 / 2 : Int) ≤ n := of_decide_eq_true c
      exact ev_is (ev_op (ev_var rfl) ev_c rv_I0) (congrArg V.int (by unfold sg; rw [if_pos (by omega)]))
    · have c' : ¬ (4294967296 / 2 : Int) ≤ n := of_decide_eq_false c
      exact ev_is (ev_var rfl) (congrArg V.int (by unfold sg; rw [if_neg (by omega)]))
/-! ### signed_list -/
abbrev sSignedList : Stmt := top 20
theorem scSignedList : FnScope ["numbers", "number"] ["numbers"] (defScope sSignedList) := ⟨rfl, rfl, rfl, by decide +kernel, rfl, by decide +kernel, by decide +kernel⟩
def spSignedList (K : PySem.W.Frag) : Sp := fun vs H Q _ => ∃ (a : Addr) (ns : List Int), vs = [.ref a] ∧ SqL K H a (ns.map V.int) ∧ ns.length ≤ 40000 ∧ RetL ((ns.map sg).map V.int) H Q
theorem ok_signed_list {f fS : Addr} {fd fdS : FuncData} (F : Fun K "signed_list" "signed_list" sSignedList f fd) (FS : Fun K "signed" "signed" sSigned fS fdS) (bS : Binds K fdS ["number"] []) (mS : mg "signed" = some (.ref fS)) (gS : GI mg "SMALL" 4294967296) : FnOk P w K mg base CX0 2 f fd ["numbers"] (spSignedList K) := by
  have GS : FnOk P w K mg base CX0 1 fS fdS ["number"] spSigned := ok_signed FS gS
  refine F.ok scSignedList (fun vs H Q E h => ?_) (fun cdv A outer s H vs Q E hr h => ?_)
  · obtain ⟨a, ns, rfl, _⟩ := h
    rfl
  · obtain ⟨a, ns, rfl, hS, hl, k⟩ := h
    refine ⟨_, pss_one (ps_ret (pe_lc (own := [("number", 1)]) (g := gName 1) (tt := tYes) rfl scSignedList.nd (pi_list (pv 0)) (blkOk_by (own := [("number", 1)]) (N := ["numbers", "number"]) (sc := defScope sSignedList) (by decide +kernel))
      (fun _ _ _ _ _ => pg_name (i := 1) scSignedList.nd rfl (Or.inl rfl)) (fun _ _ _ _ _ => pts_nil) (fun _ _ _ _ _ => pe_call GS hr (by rfl) mS FS.kp bS .nil pass0 (pa_cons (pv 1) pa_nil)))), ?_⟩
    exact s_retL (el_ints sg (ev_var rfl) hS hl (fun _ => rfl) fun n H1 e _ => ev_callA (ea_cons (ev_var rfl) ea_nil) fun H2 e2 Q q => ⟨n, rfl, q⟩) k
/-! ### median -/
abbrev sMedian : Stmt := top 5
theorem scMedian : FnScope ["values"] ["values"] (defScope sMedian) := ⟨rfl, rfl, rfl, by decide +kernel, rfl, by decide +kernel, by decide +kernel⟩
def spMedian (K : PySem.W.Frag) : Sp := fun vs H Q _ => ∃ (a : Addr) (ns : List Int), vs = [.ref a] ∧ SqL K H a (ns.map V.int) ∧ 0 < ns.length ∧ RetV (.int (Sh70.median ns)) H Q
theorem median_at {ns : List Int} (h : 0 < ns.length) : atI ((ns.mergeSort fun x y => decide (x ≤ y)).map V.int) ((((ns.map V.int).length : Int) - 1) / 2) = some (V.int (Sh70.median ns)) := by
  refine at_of (j := (ns.length - 1) / 2) (by rw [List.length_map]; omega) ?_
  rw [List.getElem?_map, intAt_get (by rw [List.length_mergeSort]; omega)]
  rfl
theorem ok_median {f : Addr} {fd : FuncData} (F : Fun K "median" "median" sMedian f fd) (zs : mg "sorted" = none) (zl : mg "len" = none) : FnOk P w K mg base CX0 1 f fd ["values"] (spMedian K) := by
  refine F.ok scMedian (fun vs H Q E h => ?_) (fun cdv A outer s H vs Q E hr h => ?_)
  · obtain ⟨a, ns, rfl, _⟩ := h
    rfl
  · obtain ⟨a, ns, rfl, hS, hl, k⟩ := h
    refine ⟨_, pss_one (ps_ret (pe_ix ix_list (pe_callB cr_sortedI (by rfl) zs boot_sorted (pa_cons (pv 0) pa_nil)) (pe_op op_fdiv (pe_op op_sub (pe_callB call_len_seq (by rfl) zl PySem.boot_len (pa_cons (pv 0) pa_nil)) pe_int) pe_int) (fun _ _ => rfl))), ?_⟩
    exact s_ret (ev_ixN (el_sorted (ev_var rfl) hS) (fun H1 e1 => ev_op (ev_op (ev_len (ev_var rfl) (ex_l e1 hS)) ev_c rv_I0) ev_c (rv_I ⟨by decide, by decide⟩)) (median_at hl)) k
/-! ### spread and scatter -/
abbrev sSpread : Stmt := top 6
theorem scSpread : FnScope ["values", "total", "value"] ["values"] (defScope sSpread) := ⟨rfl, rfl, rfl, by decide +kernel, rfl, by decide +kernel, by decide +kernel⟩
/-- the magnitudes' own bound -/
def mag5 (ns : List Int) : Prop := ∀ x ∈ ns, -99999 ≤ x ∧ x ≤ 99999
def spSpread (K : PySem.W.Frag) : Sp := fun vs H Q _ => ∃ (a : Addr) (ns : List Int), vs = [.ref a] ∧ SqL K H a (ns.map V.int) ∧ ns.length ≤ 40000 ∧ mag5 ns ∧ RetV (.int (spr ns)) H Q
theorem ok_spread {f : Addr} {fd : FuncData} (F : Fun K "spread" "spread" sSpread f fd) (zs : mg "sum" = none) (zl : mg "len" = none) : FnOk P w K mg base CX0 1 f fd ["values"] (spSpread K) := by
  refine F.ok scSpread (fun vs H Q E h => ?_) (fun cdv A outer s H vs Q E hr h => ?_)
  · obtain ⟨a, ns, rfl, _⟩ := h
    rfl
  · obtain ⟨a, ns, rfl, hS, hl, hb, k⟩ := h
    refine ⟨_, pss_cons (ps_set (i := 1) scSpread.nd rfl (Or.inl rfl) (pe_callB (cr_sum rfl) (by rfl) zs boot_sum (pa_cons (pv 0) pa_nil)))
      (pss_one (ps_ret (pe_op op_sub (pe_op op_mul (pe_callB call_len_seq (by rfl) zl PySem.boot_len (pa_cons (pv 0) pa_nil)) (pe_callB (cr_sum rfl) (by rfl) zs boot_sum (pa_cons (pe_lc (own := [("value", 2)]) (g := gName 2) (tt := tYes) rfl scSpread.nd (pi_list (pv 0)) (blkOk_by (own := [("value", 2)]) (N := ["values", "total", "value"]) (sc := defScope sSpread) (by decide +kernel))
        (fun _ _ _ _ _ => pg_name (i := 2) scSpread.nd rfl (Or.inl rfl)) (fun _ _ _ _ _ => pts_nil) (fun _ _ _ _ _ => pe_op op_mul (pv 2) (pv 2))) pa_nil))) (pe_op op_mul (pv 1) (pv 1))))), ?_⟩
    refine q_asg (v := .int ns.sum) (ev_sum (ev_var rfl) hS) fun H1 e1 => ?_
    have b := sum_bound (b := 99999) (by decide) hb
    refine s_ret (ev_op (z := .int (spr ns)) (ev_op (z := .int ((ns.length : Int) * (ns.map fun a => a * a).sum)) (ev_is (ev_len (ev_var rfl) (ex_l e1 hS)) (by rw [List.length_map])) (ev_sumN (ns := ns.map fun a => a * a) ?_) (rv_I (.inl ⟨?_, ?_⟩))) (ev_op (ev_var rfl) (ev_var rfl) (rv_I (.inl ⟨?_, ?_⟩))) rv_I0) (retV_mono k e1)
    · refine el_ints (fun a => a * a) (ev_var rfl) (ex_l e1 hS) hl (fun _ => rfl) fun n H2 e2 hn => ev_op (ev_var rfl) (ev_var rfl) (rv_I (.inl ?_))
      have hb' := hb n hn
      omega
    all_goals omega
abbrev sScatter : Stmt := top 7
theorem scScatter : FnScope ["values"] ["values"] (defScope sScatter) := ⟨rfl, rfl, rfl, by decide +kernel, rfl, by decide +kernel, by decide +kernel⟩
def spScatter (K : PySem.W.Frag) : Sp := fun vs H Q _ => ∃ (a : Addr) (ns : List Int), vs = [.ref a] ∧ SqL K H a (ns.map V.int) ∧ 0 < ns.length ∧ ns.length ≤ 2200 ∧ mag5 ns ∧ RetV (.int ((Sh70.scatter ns : Nat) : Int)) H Q
theorem ok_scatter {f fS : Addr} {fd fdS : FuncData} (F : Fun K "scatter" "scatter" sScatter f fd) (FS : Fun K "spread" "spread" sSpread fS fdS) (bS : Binds K fdS ["values"] []) (mS : mg "spread" = some (.ref fS)) (gG : GI mg "GRAIN" 256) (zs : mg "sum" = none) (zl : mg "len" = none) : FnOk P w K mg base CX0 2 f fd ["values"] (spScatter K) := by
  have GS : FnOk P w K mg base CX0 1 fS fdS ["values"] (spSpread K) := ok_spread FS zs zl
  refine F.ok scScatter (fun vs H Q E h => ?_) (fun cdv A outer s H vs Q E hr h => ?_)
  · obtain ⟨a, ns, rfl, _⟩ := h
    rfl
  · obtain ⟨a, ns, rfl, hS, h0, hl, hb, k⟩ := h
    have zl' : ∀ X : Cx, X.mg = mg → X.mg "len" = none := fun X e => e ▸ zl
    refine ⟨_, pss_one (ps_ret (pe_op op_fdivW (pe_op op_mul (pe_gi rfl gG) (pe_call GS hr (by rfl) mS FS.kp bS .nil pass0 (pa_cons (pv 0) pa_nil))) (pe_op op_mul (pe_callB call_len_seq (by rfl) zl PySem.boot_len (pa_cons (pv 0) pa_nil)) (pe_callB call_len_seq (by rfl) zl PySem.boot_len (pa_cons (pv 0) pa_nil))))), ?_⟩
    rw [scat_is h0] at k
    have p1 : (0 : Int) < (ns.length : Int) * (ns.length : Int) := Int.mul_pos (by omega) (by omega)
    have p2 : (ns.length : Int) * (ns.length : Int) ≤ 2200 * 2200 := Int.mul_le_mul (by omega) (by omega) (by omega) (by decide)
    have el : ∀ {σ : L2.St}, σ[0]? = some (some (V.ref a)) → Ev (tCB (rLenS K) (tCons (tVar 0) tNil)) σ H (.int (ns.length : Int)) := fun h => ev_is (ev_len (ev_var h) hS) (by rw [List.length_map])
    refine s_ret (ev_op (z := .int ((256 * spr ns) / ((ns.length : Int) * (ns.length : Int)))) (ev_op (z := .int (256 * spr ns)) ev_c (ev_callA (ea_cons (ev_var rfl) ea_nil) fun H1 e1 Q1 q1 => ⟨a, ns, rfl, ex_l e1 hS, by omega, hb, q1⟩) (rv_I (.inl ⟨by decide, by decide⟩))) (ev_op (z := .int ((ns.length : Int) * (ns.length : Int))) (el rfl) (el rfl) (rv_I (.inl ⟨?_, ?_⟩))) (rv_I (wide_div (b := 64) p1 ?_ (by decide) (by decide)))) k
    · omega
    · omega
    · omega
/-! ### Table: its images, lists of the magnitudes of the stars -/
abbrev sTInit : Stmt := inClass (top 9) 0
abbrev sTStar : Stmt := inClass (top 9) 1
theorem scTInit : FnScope ["self", "star_count", "magnitudes", "at"] ["self", "star_count", "magnitudes"] (defScope sTInit) := ⟨rfl, rfl, rfl, by decide +kernel, rfl, by decide +kernel, by decide +kernel⟩
theorem scTStar : FnScope ["self", "number", "image"] ["self", "number"] (defScope sTStar) := ⟨rfl, rfl, rfl, by decide +kernel, rfl, by decide +kernel, by decide +kernel⟩
def tabF (c : Nat) (p : Addr) : List (Str × V) := [("star_count", .int (c : Int)), ("images", .ref p)]
def rowO (ns : List Int) : HO := .lst (ns.map V.int)
def rowsO (c m : Nat) (ns : List Int) : List HO := (List.range m).map fun i => rowO (Sh70.imageRow c ns i)
theorem rowsO_get {c m i : Nat} {ns : List Int} (h : i < m) : (rowsO c m ns)[i]? = some (rowO (Sh70.imageRow c ns i)) := by
  unfold rowsO
  rw [List.getElem?_map, List.getElem?_range h]
  rfl
theorem rowsO_len (c m : Nat) (ns : List Int) : (rowsO c m ns).length = m := by
  unfold rowsO
  rw [List.length_map, List.length_range]
/-- a table of m images of c stars stands at x; its images at p are the objects at qs -/
structure TabAt (C : Addr) (H : Hp) (x p dx : Addr) (qs : List Addr) (c m : Nat) (ns : List Int) : Prop where
  ob : H x = some (.ins C dx (tabF c p))
  im : H p = some (.lst (qs.map V.ref))
  rows : ObjsAt H qs (rowsO c m ns)
  c0 : 0 < c
  c32 : c ≤ 32
  m0 : 0 < m
  m64 : m ≤ 64
  len : ns.length = c * m
theorem TabAt.mono {C : Addr} {H H' : Hp} {x p dx : Addr} {qs : List Addr} {c m : Nat} {ns : List Int} (T : TabAt C H x p dx qs c m ns) (e : Ex H H') : TabAt C H' x p dx qs c m ns :=
  ⟨e _ _ T.ob, e _ _ T.im, T.rows.mono e, T.c0, T.c32, T.m0, T.m64, T.len⟩
structure TabTxt (K : PySem.W.Frag) (C : Addr) : Prop where
  cl : Cls K C
  nS : NoAttr K C "star_count"
  nI : NoAttr K C "images"
theorem tk_here {k : Str} {v : V} {r : List (Str × V)} : List.lookup k ((k, v) :: r) = some v := by
  have e : (k == k) = true := beq_self_eq_true k
  simp only [List.lookup, e]
theorem tk_past {k g : Str} {v : V} {r : List (Str × V)} (h : (k == g) = false) : List.lookup k ((g, v) :: r) = List.lookup k r := by
  simp only [List.lookup, h]
theorem tabF_star (c : Nat) (p : Addr) : (tabF c p).lookup ("star_count" : Str) = some (.int (c : Int)) := tk_here
theorem tabF_im (c : Nat) (p : Addr) : (tabF c p).lookup ("images" : Str) = some (.ref p) := (tk_past (by decide +kernel)).trans tk_here
theorem tabF_no (c : Nat) (p : Addr) {m : Str} (h1 : (m == ("star_count" : Str)) = false) (h2 : (m == ("images" : Str)) = false) : (tabF c p).lookup m = none := (tk_past h1).trans ((tk_past h2).trans rfl)
theorem sqL_upd {H : Hp} {a x C dx : Addr} {xs : List V} {fs : List (Str × V)} {o : HO} (h : SqL K H a xs) (hx : H x = some (.ins C dx fs)) : SqL K (upd H x o) a xs := by
  rcases h with (h | ⟨ob, h⟩) | h
  · refine .inl (.inl ?_)
    rw [upd_ne (ne_of h hx (by intro z; cases z))]
    exact h
  · refine .inl (.inr ⟨ob, ?_⟩)
    rw [upd_ne (ne_of h hx (by intro z; cases z))]
    exact h
  · exact .inr h
def spTInit (K : PySem.W.Frag) (C : Addr) : Sp := fun vs H Q _ => ∃ (x dx a : Addr) (c m : Nat) (ns : List Int), vs = [.ref x, .int (c : Int), .ref a] ∧ H x = some (.ins C dx []) ∧ SqL K H a (ns.map V.int) ∧ 0 < c ∧ c ≤ 32 ∧ 0 < m ∧ m ≤ 64 ∧ ns.length = c * m ∧
  ∀ (H' : Hp) (p : Addr) (qs : List Addr), TabAt C H' x p dx qs c m ns → (∀ b o, H b = some o → b ≠ x → H' b = some o) → Q .non H'
theorem cut_row {c m i : Nat} {ns : List Int} (hl : ns.length = c * m) (hi : i < m) : cutV (ns.map V.int) (some ((0 : Int) + ((i : Nat) : Int) * (c : Int))) (some ((0 : Int) + ((i : Nat) : Int) * (c : Int) + (c : Int))) = (Sh70.imageRow c ns i).map V.int := by
  have e1 : (0 : Int) + ((i : Nat) : Int) * (c : Int) = ((i * c : Nat) : Int) := by
    rw [Int.zero_add, Int.natCast_mul]
  have e2 : (0 : Int) + ((i : Nat) : Int) * (c : Int) + (c : Int) = ((i * c + c : Nat) : Int) := by
    rw [e1]
    omega
  have b : i * c + c ≤ c * m := by
    rw [Nat.mul_comm c m]
    calc i * c + c = (i + 1) * c := by rw [Nat.succ_mul]
      _ ≤ m * c := Nat.mul_le_mul_right _ hi
  unfold cutV
  rw [e2, e1, HT.sIx_nat, HT.sIx_nat, List.length_map, Nat.min_eq_left (by omega), Nat.min_eq_left (by omega), show i * c + c - i * c = c by omega]
  unfold Sh70.imageRow
  rw [List.map_take, List.map_drop]
theorem ok_tinit {f C : Addr} {fd : FuncData} (F : Fun K "__init__" "Table.__init__" sTInit f fd) (T : TabTxt K C) (zr : mg "range" = none) (zl : mg "len" = none) : FnOk P w K mg base CX0 1 f fd ["self", "star_count", "magnitudes"] (spTInit K C) := by
  refine F.ok scTInit (fun vs H Q E h => ?_) (fun cdv A outer s H vs Q E hr h => ?_)
  · obtain ⟨x, dx, a, c, m, ns, rfl, _⟩ := h
    rfl
  · obtain ⟨x, dx, a, c, m, ns, rfl, hx, hS, c0, c32, m0, m64, hl, k⟩ := h
    refine ⟨_, pss_cons (ps_fld (pv 0) (pv 1) rfl) (pss_one (ps_fld (pv 0) (pe_lc (own := [("at", 3)]) (g := gName 3) (tt := tYes) rfl scTInit.nd
      (pi_range3 (by rfl) zr (pa_cons pe_int (pa_cons (pe_callB call_len_seq (by rfl) zl PySem.boot_len (pa_cons (pv 2) pa_nil)) (pa_cons (pv 1) pa_nil))))
      (blkOk_by (own := [("at", 3)]) (N := ["self", "star_count", "magnitudes", "at"]) (sc := defScope sTInit) (by decide +kernel))
      (fun _ _ _ _ _ => pg_name (i := 3) scTInit.nd rfl (Or.inl rfl)) (fun _ _ _ _ _ => pts_nil) (fun _ _ _ _ _ => pe_slice (r := rSlL K) sl_list (pv 2) (po_some (pv 3)) (po_some (pe_op op_add (pv 3) (pv 1))))) rfl)), ?_⟩
    refine ⟨_, rfl, _, rfl, x, C, dx, [], rfl, hx, T.cl, T.nS, (by show 0 < 1000; decide), ?_⟩
    have ne : ∀ b o, H b = some o → b ≠ x → (upd H x (.ins C dx (putF "star_count" (.int (c : Int)) []))) b = some o := fun b o e hb => by
      rw [upd_ne hb]
      exact e
    have hS1 : SqL K (upd H x (.ins C dx (putF "star_count" (.int (c : Int)) []))) a (ns.map V.int) := sqL_upd hS hx
    have hx1 : (upd H x (.ins C dx (putF "star_count" (.int (c : Int)) []))) x = some (.ins C dx (putF "star_count" (.int (c : Int)) [])) := upd_same
    generalize upd H x (.ins C dx (putF "star_count" (.int (c : Int)) [])) = H1 at ne hS1 hx1
    have hw := ew_rng3 (n := m) (ea_cons (σ := start ["self", "star_count", "magnitudes", "at"] [V.ref x, V.int (c : Int), V.ref a]) (H := H1) ev_c (ea_cons (ev_len (K := K) (ta := tVar 2) (ev_var rfl) hS1) (ea_cons (ta := tVar 1) (ev_var rfl) ea_nil))) (by
      rw [List.length_map, hl]
      exact rgC_table c0 c32 m64)
    have hw2 := hw
    rw [← rowsO_len c m ns] at hw2
    refine s_fldOs (K := K) (os := rowsO c m ns) (eos_lc hw2 (by rw [rowsO_len]; omega) (fun i y o H3 H4 ho e3 yy Qg q => ?_)) rfl hx1 T.cl T.nI (by show 1 < 1000; decide) fun p qs H2 hp e2 h1 h2 h3 h4 => ?_
    · obtain ⟨rfl, rfl⟩ := yy
      have hi : i < m := by
        have := (List.getElem?_eq_some_iff.mp ho).1
        rw [rowsO_len] at this
        exact this
      have eo : rowO (Sh70.imageRow c ns i) = o := Option.some.inj ((rowsO_get hi).symm.trans ho)
      subst eo
      refine q _ _ rfl (Ex.refl _) (eo_l ?_)
      have z := el_sl (K := K) (te := tVar 2) (tl := tPart (tVar 3)) (th := tPart (tOp (rI0 fun i j => .int (i + j)) (tVar 3) (tVar 1))) (σ := (wipe (start ["self", "star_count", "magnitudes", "at"] [V.ref x, V.int (c : Int), V.ref a]) [3]).set 3 (some (V.int (0 + (i : Int) * (c : Int))))) (ev_var rfl) (eo_some (ev_var rfl)) (eo_some (ev_op (ev_var rfl) (ev_var rfl) rv_I0)) (ex_l e3 hS1)
      rw [cut_row hl hi] at z
      exact z
    · have px : p ≠ x := (ne_of_none hx1 hp).symm
      have eF : putF "images" (.ref p) (putF "star_count" (.int (c : Int)) []) = tabF c p := (if_neg (by decide +kernel)).trans rfl
      rw [eF]
      refine k _ p qs ⟨upd_same, by rw [upd_ne px]; exact h1, ⟨h2.1, fun i q o a b => ?_⟩, c0, c32, m0, m64, hl⟩ fun b o e hb => by rw [upd_ne hb]; exact e2 _ _ (ne b o e hb)
      have qx : q ≠ x := (ne_of_none hx1 (h3 q (List.mem_of_getElem? a)).1).symm
      rw [upd_ne qx]
      exact h2.2 i q o a b
/-- star: the magnitudes of a star -/
def spTStar (C : Addr) : Sp := fun vs H Q _ => ∃ (x dx p : Addr) (qs : List Addr) (c m : Nat) (ns : List Int) (j : Nat), vs = [.ref x, .int (j : Int)] ∧ TabAt C H x p dx qs c m ns ∧ j < c ∧ RetL ((Sh70.starColumn c ns j).map V.int) H Q
theorem ok_tstar {f C : Addr} {fd : FuncData} (F : Fun K "star" "Table.star" sTStar f fd) (T : TabTxt K C) : FnOk P w K mg base CX0 1 f fd ["self", "number"] (spTStar C) := by
  refine F.ok scTStar (fun vs H Q E h => ?_) (fun cdv A outer s H vs Q E hr h => ?_)
  · obtain ⟨x, dx, p, qs, c, m, ns, j, rfl, _⟩ := h
    rfl
  · obtain ⟨x, dx, p, qs, c, m, ns, j, rfl, hT, hj, k⟩ := h
    refine ⟨_, pss_one (ps_ret (pe_lc (own := [("image", 2)]) (g := gName 2) (tt := tYes) rfl scTStar.nd (pi_list (pe_fld (pv 0) rfl)) (blkOk_by (own := [("image", 2)]) (N := ["self", "number", "image"]) (sc := defScope sTStar) (by decide +kernel))
      (fun _ _ _ _ _ => pg_name (i := 2) scTStar.nd rfl (Or.inl rfl)) (fun _ _ _ _ _ => pts_nil) (fun _ _ _ _ _ => pe_ix (r := rIxL K) ix_list (pv 2) (pv 1) (fun _ _ => rfl)))), ?_⟩
    have hw := ew_list (K := K) (σ := start ["self", "number", "image"] [V.ref x, V.int (j : Int)]) (ev_fld (ta := tVar 0) (ev_var rfl) hT.ob T.cl T.nI (tabF_im c p)) (sq_new hT.im)
    have hlen : (qs.map V.ref).length = m := by rw [List.length_map, hT.rows.1, rowsO_len]
    rw [hlen] at hw
    have z := el_lcV (te := tOp (rIxL K) (tVar 2) (tVar 1)) (g := gName 2) (vs := [2]) (fun i => V.int (Sh70.intAt ns (i * c + j))) hw (by have := hT.m64; omega) fun i y H1 H2 hi e yy Qg q => by
      obtain ⟨rfl, hy⟩ := yy
      obtain ⟨b, o, rfl, hb, ho, hob⟩ := hT.rows.at hy
      have eo : rowO (Sh70.imageRow c ns i) = o := Option.some.inj ((rowsO_get hi).symm.trans ho)
      subst eo
      refine q _ _ rfl (Ex.refl _) (ev_op (ev_var rfl) (ev_var rfl) (rv_ixL (sq_new (e _ _ hob)) (atI_nat ?_)))
      rw [List.getElem?_map, row_get hT.len hi hj]
      rfl
    have e : (List.range m).map (fun i => V.int (Sh70.intAt ns (i * c + j))) = (Sh70.starColumn c ns j).map V.int := by
      rw [column_is hT.c0 hT.len, List.map_map]
      rfl
    rw [e] at z
    exact s_retL z k
/-! ### Table.scatters -/
abbrev sTScatters : Stmt := inClass (top 9) 3
theorem scTScatters : FnScope ["self", "number"] ["self"] (defScope sTScatters) := ⟨rfl, rfl, rfl, by decide +kernel, rfl, by decide +kernel, by decide +kernel⟩
def spTScatters (C : Addr) : Sp := fun vs H Q _ => ∃ (x dx p : Addr) (qs : List Addr) (c m : Nat) (ns : List Int), vs = [.ref x] ∧ TabAt C H x p dx qs c m ns ∧ mag5 ns ∧ RetL ((scats c ns).map V.int) H Q
theorem ok_tscatters {f fS fM fP C : Addr} {fd fdS fdM fdP : FuncData} (F : Fun K "scatters" "Table.scatters" sTScatters f fd) (T : TabTxt K C) (FS : Fun K "star" "Table.star" sTStar fS fdS) (bS : Binds K fdS ["self", "number"] []) (mS : Meth K C "star" fS)
    (FM : Fun K "scatter" "scatter" sScatter fM fdM) (bM : Binds K fdM ["values"] []) (mM : mg "scatter" = some (.ref fM)) (FP : Fun K "spread" "spread" sSpread fP fdP) (bP : Binds K fdP ["values"] []) (mP : mg "spread" = some (.ref fP)) (gG : GI mg "GRAIN" 256) (zs : mg "sum" = none) (zl : mg "len" = none) (zr : mg "range" = none) : FnOk P w K mg base CX0 3 f fd ["self"] (spTScatters C) := by
  have GS : FnOk P w K mg base CX0 1 fS fdS ["self", "number"] (spTStar C) := ok_tstar FS T
  have GM : FnOk P w K mg base CX0 2 fM fdM ["values"] (spScatter K) := ok_scatter FM FP bP mP gG zs zl
  refine F.ok scTScatters (fun vs H Q E h => ?_) (fun cdv A outer s H vs Q E hr h => ?_)
  · obtain ⟨x, dx, p, qs, c, m, ns, rfl, _⟩ := h
    rfl
  · obtain ⟨x, dx, p, qs, c, m, ns, rfl, hT, hb, k⟩ := h
    have hr1 : Room 1 _ := hr.mono (by decide)
    refine ⟨_, pss_one (ps_ret (pe_lc (own := [("number", 1)]) (g := gName 1) (tt := tYes) rfl scTScatters.nd (pi_range1 (by rfl) zr (pa_cons (pe_fld (pv 0) rfl) pa_nil)) (blkOk_by (own := [("number", 1)]) (N := ["self", "number"]) (sc := defScope sTScatters) (by decide +kernel))
      (fun _ _ _ _ _ => pg_name (i := 1) scTScatters.nd rfl (Or.inl rfl)) (fun _ _ _ _ _ => pts_nil) (fun _ _ _ _ _ => pe_call GM hr (by rfl) mM FM.kp bM .nil pass0 (pa_cons (pe_meth (pv 0) T.cl mS GS hr1 bS .nil pass0 (pa_cons (pv 1) pa_nil)) pa_nil)))), ?_⟩
    have c32 := hT.c32
    have m64 := hT.m64
    have m0 := hT.m0
    have hw := ew_rng1 (σ := start ["self", "number"] [V.ref x]) (ea_cons (ta := tFld K (tVar 0) "star_count") (ev_fld (ev_var rfl) hT.ob T.cl T.nS (tabF_star c p)) ea_nil) (by omega)
    rw [show ((c : Int)).toNat = c from rfl] at hw
    have z := el_lcV (te := tCall (spScatter K) [] E0 (tCons (tMeth C "star" (spTStar C) [] E0 (tVar 0) (tCons (tVar 1) tNil)) tNil)) (g := gName 1) (vs := [1]) (fun i => V.int ((Sh70.scatter (Sh70.starColumn c ns i) : Nat) : Int)) hw (by omega) fun i y H1 H2 hi e yy Qg q => by
      obtain ⟨rfl, rfl⟩ := yy
      have cl := column_len (j := i) hT.c0 hT.len
      refine q _ _ rfl (Ex.refl _) (ev_callL (el_meth (ev_var rfl) (e _ _ hT.ob) (tabF_no c p (by decide +kernel) (by decide +kernel)) (ea_cons (ev_var rfl) ea_nil) fun H3 e3 Q3 q3 => ⟨x, dx, p, qs, c, m, ns, i, rfl, hT.mono (e.trans e3), hi, q3⟩) fun d H3 e3 hd Q3 q3 => ⟨d, _, rfl, sq_new hd, by omega, by omega, column_bound hT.c0 hT.len hi hb, q3⟩)
    have e : (List.range c).map (fun i => V.int ((Sh70.scatter (Sh70.starColumn c ns i) : Nat) : Int)) = (scats c ns).map V.int := by
      unfold scats
      rw [List.map_map]
      rfl
    rw [e] at z
    exact s_retL z k
/-! ### variables -/
abbrev sVars : Stmt := top 10
theorem scVars : FnScope ["table", "factor", "scatters", "least", "star"] ["table", "factor"] (defScope sVars) := ⟨rfl, rfl, rfl, by decide +kernel, rfl, by decide +kernel, by decide +kernel⟩
def spVars (C : Addr) : Sp := fun vs H Q _ => ∃ (x dx p : Addr) (qs : List Addr) (c m : Nat) (ns : List Int) (fa : Nat), vs = [.ref x, .int (fa : Int)] ∧ TabAt C H x p dx qs c m ns ∧ mag5 ns ∧ fa ≤ 65535 ∧ RetL ((varsI fa c ns).map V.int) H Q
theorem ok_vars {f fT fM C : Addr} {fd fdT fdM : FuncData} (F : Fun K "variables" "variables" sVars f fd) (T : TabTxt K C) (GT : FnOk P w K mg base CX0 3 fT fdT ["self"] (spTScatters C)) (mT : Meth K C "scatters" fT) (bT : Binds K fdT ["self"] [])
    (FM : Fun K "median" "median" sMedian fM fdM) (bM : Binds K fdM ["values"] []) (mM : mg "median" = some (.ref fM)) (zs : mg "sorted" = none) (zl : mg "len" = none) (zr : mg "range" = none) (zm : mg "max" = none) : FnOk P w K mg base CX0 4 f fd ["table", "factor"] (spVars C) := by
  have GM : FnOk P w K mg base CX0 1 fM fdM ["values"] (spMedian K) := ok_median FM zs zl
  refine F.ok scVars (fun vs H Q E h => ?_) (fun cdv A outer s H vs Q E hr h => ?_)
  · obtain ⟨x, dx, p, qs, c, m, ns, fa, rfl, _⟩ := h
    rfl
  · obtain ⟨x, dx, p, qs, c, m, ns, fa, rfl, hT, hb, hfa, k⟩ := h
    have hr1 : Room 1 _ := hr.mono (by decide)
    refine ⟨_, pss_cons (ps_set (i := 2) scVars.nd rfl (Or.inr rfl) (pe_meth0 (pv 0) T.cl mT GT hr bT .nil pass0))
      (pss_cons (ps_set (i := 3) scVars.nd rfl (Or.inr rfl) (pe_op op_mul (pv 1) (pe_callB (call_max2 rfl) (by rfl) zm boot_max (pa_cons pe_int (pa_cons (pe_call GM hr1 (by rfl) mM FM.kp bM .nil pass0 (pa_cons (pv 2) pa_nil)) pa_nil)))))
      (pss_one (ps_ret (pe_lc (own := [("star", 4)]) (g := gName 4) rfl scVars.nd (pi_range1 (by rfl) zr (pa_cons (pe_fld (pv 0) rfl) pa_nil)) (blkOk_by (own := [("star", 4)]) (N := ["table", "factor", "scatters", "least", "star"]) (sc := defScope sVars) (by decide +kernel))
      (fun _ _ _ _ _ => pg_name (i := 4) scVars.nd rfl (Or.inl rfl)) (fun _ _ _ _ _ => pts_one (pt_cmpR op_gt (pe_ix (r := rIxL K) ix_list (pv 2) (pv 4) (fun _ _ => rfl)) (pv 3) (nomark _))) (fun _ _ _ _ _ => pv 4))))), ?_⟩
    have hsl : (scats c ns).length = c := by
      unfold scats
      rw [List.length_map, List.length_range]
    have c0 := hT.c0
    have c32 := hT.c32
    refine q_asgL (xs := (scats c ns).map V.int) (el_meth (ev_var rfl) hT.ob (tabF_no c p (by decide +kernel) (by decide +kernel)) ea_nil fun H3 e3 Q3 q3 => ⟨x, dx, p, qs, c, m, ns, rfl, hT.mono e3, hb, q3⟩) fun d H1 _ e1 hd => ?_
    have hT1 := hT.mono e1
    refine q_asg (v := .int ((fa : Int) * max 1 (Sh70.median (scats c ns)))) (ev_op (ev_var rfl) (ev_max ev_c (ev_callA (ea_cons (ev_var rfl) ea_nil) fun H3 e3 Q3 q3 => ⟨d, _, rfl, sq_new (e3 _ _ hd), by omega, q3⟩)) (rv_I (.inl ⟨by omega, by omega⟩))) fun H2 e2 => ?_
    have hT2 := hT1.mono e2
    generalize hle : (fa : Int) * max 1 (Sh70.median (scats c ns)) = least
    have hw := ew_rng1 (σ := ((start ["table", "factor", "scatters", "least", "star"] [V.ref x, V.int (fa : Int)]).set 2 (some (V.ref d))).set 3 (some (V.int least))) (ea_cons (ta := tFld K (tVar 0) "star_count") (ev_fld (ev_var rfl) hT2.ob T.cl T.nS (tabF_star c p)) ea_nil) (by omega)
    rw [show ((c : Int)).toNat = c from rfl] at hw
    have z := el_lcW (t := tTest (tOp (rI0 fun i j => .bl (decide (j < i))) (tOp (rIxL K) (tVar 2) (tVar 4)) (tVar 3))) (te := tVar 4) (g := gName 4) (vs := [4]) (fun i => decide (least < Sh70.intAt (scats c ns) i)) (fun i => V.int (i : Int)) hw (by omega) fun i y H3 H4 hi e yy Qg q => by
      obtain ⟨rfl, rfl⟩ := yy
      refine q _ _ rfl (Ex.refl _) (et_test (ev_op (x := .int (Sh70.intAt (scats c ns) i)) (ev_op (ev_var rfl) (ev_var rfl) (rv_ixL (sq_new ((e2.trans e) _ _ hd)) (atI_nat ?_))) (ev_var rfl) rv_I0)) fun _ => ev_var rfl
      rw [List.getElem?_map, intAt_get (by omega)]
      rfl
    have e : given c (fun i => decide (least < Sh70.intAt (scats c ns) i)) (fun i => V.int (i : Int)) = (varsI fa c ns).map V.int := by
      unfold given varsI
      rw [vars_is, hle, List.map_map]
      rfl
    rw [e] at z
    exact s_retL z (retL_mono k (e1.trans e2))
/-! ### are_magnitudes -/
abbrev sAreMag : Stmt := top 19
theorem scAreMag : FnScope ["numbers", "number"] ["numbers"] (defScope sAreMag) := ⟨rfl, rfl, rfl, by decide +kernel, rfl, by decide +kernel, by decide +kernel⟩
def spAreMag (K : PySem.W.Frag) : Sp := fun vs H Q _ => ∃ (a : Addr) (ns : List Int), vs = [.ref a] ∧ SqL K H a (ns.map V.int) ∧ ns.length ≤ 40000 ∧ RetV (.bl (Sh70.areValidMagnitudes ns)) H Q
theorem ok_are_mag {f : Addr} {fd : FuncData} (F : Fun K "are_magnitudes" "are_magnitudes" sAreMag f fd) (gM : GI mg "MOST_MAGNITUDE" 99999) (za : mg "all" = none) (zb : mg "abs" = none) : FnOk P w K mg base CX0 1 f fd ["numbers"] (spAreMag K) := by
  refine F.ok scAreMag (fun vs H Q E h => ?_) (fun cdv A outer s H vs Q E hr h => ?_)
  · obtain ⟨a, ns, rfl, _⟩ := h
    rfl
  · obtain ⟨a, ns, rfl, hS, hl, k⟩ := h
    refine ⟨_, pss_one (ps_ret (pe_callB (cr_all rfl) (by rfl) za boot_all (pa_cons (pe_lc (own := [("number", 1)]) (g := gName 1) (tt := tYes) rfl scAreMag.nd (pi_list (pv 0)) (blkOk_by (own := [("number", 1)]) (N := ["numbers", "number"]) (sc := defScope sAreMag) (by decide +kernel))
      (fun _ _ _ _ _ => pg_name (i := 1) scAreMag.nd rfl (Or.inl rfl)) (fun _ _ _ _ _ => pts_nil) (fun _ _ _ _ _ => pe_cmpR op_le (pe_callB call_abs (by rfl) zb boot_abs (pa_cons (pv 1) pa_nil)) (pe_gi rfl gM) (nomark _))) pa_nil))), ?_⟩
    have e : (ns.map magOk).all id = Sh70.areValidMagnitudes ns := by
      rw [List.all_map]
      exact mags_are ns
    rw [← e] at k
    refine s_ret (ev_allN ?_) k
    have z := el_vals (K := K) (tl := tVar 0) (vs := [1]) (j := 1) (σ := start ["numbers", "number"] [V.ref a]) (fun n => V.bl (magOk n)) (ev_var rfl) hS hl (fun _ => rfl) fun n H1 e _ => ev_op (ev_abs (ev_var (i := 1) rfl)) (ev_c (v := .int 99999)) (rv_I0 (g := fun i j => .bl (decide (i ≤ j))))
    rw [List.map_map]
    exact z
/-! ### table_error -/
abbrev sTabErr : Stmt := top 18
theorem scTabErr : FnScope ["star_count", "magnitudes"] ["star_count", "magnitudes"] (defScope sTabErr) := ⟨rfl, rfl, rfl, by decide +kernel, rfl, by decide +kernel, by decide +kernel⟩
def spTabErr (K : PySem.W.Frag) : Sp := fun vs H Q _ => ∃ (c : Int) (a : Addr) (ns : List Int), vs = [.int c, .ref a] ∧ SqL K H a (ns.map V.int) ∧ RetV (.bl (!tabOk c (ns.length : Int))) H Q
theorem ok_table_error {f : Addr} {fd : FuncData} (F : Fun K "table_error" "table_error" sTabErr f fd) (gS : GI mg "MOST_STARS" 32) (gI : GI mg "MOST_IMAGES" 64) (zl : mg "len" = none) : FnOk P w K mg base CX0 1 f fd ["star_count", "magnitudes"] (spTabErr K) := by
  refine F.ok scTabErr (fun vs H Q E h => ?_) (fun cdv A outer s H vs Q E hr h => ?_)
  · obtain ⟨c, a, ns, rfl, _⟩ := h
    rfl
  · obtain ⟨c, a, ns, rfl, hS, k⟩ := h
    refine ⟨_, pss_cons (ps_if (pt_not (pt_chain op_le op_le pe_int (pv 0) (pe_gi rfl gS))) (pss_one (ps_ret pe_bl)) pss_nil)
      (pss_one (ps_ret (pe_not (pe_chain op_le op_le pe_int (pe_op op_fdiv (pe_callB call_len_seq (by rfl) zl PySem.boot_len (pa_cons (pv 1) pa_nil)) (pv 0)) (pe_gi rfl gI))))), ?_⟩
    refine q_when (et_not (et_test (ev_between ev_c (ev_var rfl) ev_c))) (fun c0 H1 e1 => ?_) (fun c0 H1 e1 => ?_)
    · have c1 : (decide (1 ≤ c) && decide (c ≤ 32)) = false := nt c0
      have e : tabOk c (ns.length : Int) = false := by
        unfold tabOk
        rw [c1]
        rfl
      rw [e] at k
      exact s_ret ev_c (retV_mono k e1)
    · have c1 : (decide (1 ≤ c) && decide (c ≤ 32)) = true := nf c0
      have c2 : 1 ≤ c ∧ c ≤ 32 := by simpa using c1
      have e : tabOk c (ns.length : Int) = (decide (1 ≤ (ns.length : Int) / c) && decide ((ns.length : Int) / c ≤ 64)) := by
        unfold tabOk
        rw [c1, Bool.true_and]
      rw [e] at k
      refine s_ret (ev_notV (ev_between ev_c (ev_op (z := .int ((ns.length : Int) / c)) (ev_len (ev_var rfl) (ex_l e1 hS)) (ev_var rfl) ?_) ev_c)) (retV_mono k e1)
      have z := rv_I (H := H1) (C := CDiv) (g := fun i j => V.int (i / j)) (i := ((ns.map V.int).length : Int)) (j := c) ⟨by omega, by omega⟩
      rw [List.length_map] at z
      rw [List.length_map]
      exact z
/-! ### Table(star_count, values) -/
theorem ep_mkTable {σ : L2.St} {H : Hp} {C a : Addr} {E : XK} {t : TA} {c m : Nat} {ns : List Int} (h : EvA t σ H [.int (c : Int), .ref a]) (hS : SqL K H a (ns.map V.int)) (c0 : 0 < c) (c32 : c ≤ 32) (m0 : 0 < m) (m64 : m ≤ 64) (hl : ns.length = c * m) :
    EvP (tMake C (spTInit K C) [] E t) σ H fun v H' => ∃ x dx p qs, v = .ref x ∧ TabAt C H' x p dx qs c m ns := fun H1 e Q q =>
  h H1 e _ fun H2 e2 x dx nx nd ne => by
    have s1 : Ex H2 (upd (upd H2 dx (.own x)) x (.ins C dx [])) := fun b o hb => by
      rw [upd_ne (ne_of_none hb nx), upd_ne (ne_of_none hb nd)]
      exact hb
    exact ⟨x, dx, a, c, m, ns, rfl, upd_same, ex_l ((e.trans e2).trans s1) hS, c0, c32, m0, m64, hl, fun H' p qs T kp => ⟨rfl, q (.ref x) H' (e2.trans (L2.Same.made nx nd kp)) ⟨x, dx, p, qs, rfl, T⟩⟩⟩
/-! ### variable_stars -/
abbrev sVar : Stmt := top 21
theorem scVar : FnScope ["star_count", "factor", "magnitudes", "values", "found"] ["star_count", "factor", "magnitudes"] (defScope sVar) := ⟨rfl, rfl, rfl, by decide +kernel, rfl, by decide +kernel, by decide +kernel⟩
def spVar (K : PySem.W.Frag) : Sp := fun vs H Q _ => ∃ (c fa : Int) (a : Addr) (ns : List Int), vs = [.int c, .int fa, .ref a] ∧ SqL K H a (ns.map V.int) ∧ u32 c ∧ u32 fa ∧ u32s 2200 ns ∧ ((tabOk c (ns.length : Int) && decide (fa ≤ 65535)) = true → ns.length = c.toNat * (ns.length / c.toNat)) ∧ RetL ((PySh70.variable_stars c fa ns).map V.int) H Q
theorem ok_var {f fE fL fA fI fX : Addr} {fd fdE fdL fdA fdI fdX : FuncData} {C : Addr} (F : Fun K "variable_stars" "variable_stars" sVar f fd)
    (GE : FnOk P w K mg base CX0 1 fE fdE ["star_count", "magnitudes"] (spTabErr K)) (kE : PySem.W.keepIn K (.ref fE) = true) (bE : Binds K fdE ["star_count", "magnitudes"] []) (mE : mg "table_error" = some (.ref fE))
    (GL : FnOk P w K mg base CX0 2 fL fdL ["numbers"] (spSignedList K)) (kL : PySem.W.keepIn K (.ref fL) = true) (bL : Binds K fdL ["numbers"] []) (mL : mg "signed_list" = some (.ref fL))
    (GA : FnOk P w K mg base CX0 1 fA fdA ["numbers"] (spAreMag K)) (kA : PySem.W.keepIn K (.ref fA) = true) (bA : Binds K fdA ["numbers"] []) (mA : mg "are_magnitudes" = some (.ref fA))
    (GI_ : FnOk P w K mg base CX0 1 fI fdI ["self", "star_count", "magnitudes"] (spTInit K C)) (M : Mk K C fI) (bI : Binds K fdI ["self", "star_count", "magnitudes"] []) (mC : mg "Table" = some (.ref C))
    (GX : FnOk P w K mg base CX0 4 fX fdX ["table", "factor"] (spVars C)) (kX : PySem.W.keepIn K (.ref fX) = true) (bX : Binds K fdX ["table", "factor"] []) (mX : mg "variables" = some (.ref fX))
    (gO : GI mg "OUT_OF_RANGE" (-2)) (gB : GI mg "BAD_MAGNITUDE" (-3)) (gW : GI mg "MOST_WEIGHT" 65535) (zl : mg "len" = none) : FnOk P w K mg base CX0 5 f fd ["star_count", "factor", "magnitudes"] (spVar K) := by
  refine F.ok scVar (fun vs H Q E h => ?_) (fun cdv A outer s H vs Q E hr h => ?_)
  · obtain ⟨c, fa, a, ns, rfl, _⟩ := h
    rfl
  · obtain ⟨c, fa, a, ns, rfl, hS, hc, hfa, hn, hlen, k⟩ := h
    have hr1 : Room 1 _ := hr.mono (by decide)
    have hr2 : Room 2 _ := hr.mono (by decide)
    refine ⟨_, pss_cons (ps_if (PW.pt (pw_or (pt_val (pe_call GE hr1 (by rfl) mE kE bE .nil pass0 (pa_cons (pv 0) (pa_cons (pv 2) pa_nil)))) (pw_or1 (pt_cmpR op_gt (pv 1) (pe_gi rfl gW) (nomark _))))) (pss_one (ps_ret (pe_lst (pa_cons (pe_gi rfl gO) pa_nil)))) pss_nil)
      (pss_cons (ps_set (i := 3) scVar.nd rfl (Or.inl rfl) (pe_call GL hr2 (by rfl) mL kL bL .nil pass0 (pa_cons (pv 2) pa_nil)))
      (pss_cons (ps_if (pt_not (pt_val (pe_call GA hr1 (by rfl) mA kA bA .nil pass0 (pa_cons (pv 3) pa_nil)))) (pss_one (ps_ret (pe_lst (pa_cons (pe_gi rfl gB) pa_nil)))) pss_nil)
      (pss_cons (ps_set (i := 4) scVar.nd rfl (Or.inl rfl) (pe_call GX hr (by rfl) mX kX bX .nil pass0 (pa_cons (pe_make M GI_ hr2 rfl mC bI .nil pass0 (pa_cons (pv 0) (pa_cons (pv 3) pa_nil))) (pa_cons (pv 1) pa_nil))))
      (pss_one (ps_ret (pe_op op_cat (pe_lst (pa_cons (pe_callB call_len_seq (by rfl) zl PySem.boot_len (pa_cons (pv 4) pa_nil)) pa_nil)) (pv 4))))))), ?_⟩
    have hn0 : ∀ n ∈ ns, 0 ≤ n := fun n h => (hn.2 n h).1
    have hl : ns.length ≤ 2200 := hn.1
    refine q_when (et_or (a := !tabOk c (ns.length : Int)) (b := decide (65535 < fa)) (et_B (ev_callA (ea_cons (ev_var rfl) (ea_cons (ev_var rfl) ea_nil)) fun H1 e1 Q1 q1 => ⟨c, a, ns, rfl, ex_l e1 hS, q1⟩)) (fun _ => et_test (ev_op (ev_var rfl) ev_c rv_I0))) (fun c0 H1 e1 => ?_) (fun c0 H1 e1 => ?_)
    · have c1 : (tabOk c (ns.length : Int) && decide (fa ≤ 65535)) = false := by
        rw [← Bool.not_eq_true]
        intro z
        rw [Bool.and_eq_true] at z
        rw [z.1, decide_eq_false (show ¬ 65535 < fa by have := of_decide_eq_true z.2; omega)] at c0
        cases c0
      rw [var_bad hc.1 hfa.1 c1] at k
      exact s_retL (el_lst (ea_cons ev_c ea_nil) small) (retL_mono k e1)
    rw [Bool.or_eq_false_iff] at c0
    have ok := nf c0.1
    have hf5 : fa ≤ 65535 := by have := of_decide_eq_false c0.2; omega
    have ok2 : (tabOk c (ns.length : Int) && decide (fa ≤ 65535)) = true := by rw [ok, decide_eq_true hf5]; rfl
    refine q_asgL (el_callA (xs := (ns.map sg).map V.int) (ea_cons (ev_var rfl) ea_nil) fun H2 e2 Q2 q2 => ⟨a, ns, rfl, ex_l (e1.trans e2) hS, by omega, q2⟩) fun v H2 _ e2 hv => ?_
    refine q_when (et_not (et_B (b := Sh70.areValidMagnitudes (ns.map sg)) (ev_callA (ea_cons (ev_var rfl) ea_nil) fun H3 e3 Q3 q3 => ⟨v, ns.map sg, rfl, sq_new (e3 _ _ hv), by rw [List.length_map]; omega, q3⟩))) (fun c1 H3 e3 => ?_) (fun c1 H3 e3 => ?_)
    · rw [var_mag hc.1 hfa.1 hn0 ok2 (nt c1)] at k
      exact s_retL (el_lst (ea_cons ev_c ea_nil) small) (retL_mono k ((e1.trans e2).trans e3))
    rw [var_ok hc.1 hfa.1 hn0 ok2 (nf c1)] at k
    obtain ⟨f1, f2, f3, f4⟩ := tab_facts ok
    have eq := nat_div (n := ns.length) hc.1
    have hlm := hlen ok2
    clear hlen
    obtain ⟨cn, rfl⟩ := Int.eq_ofNat_of_zero_le hc.1
    obtain ⟨fn, rfl⟩ := Int.eq_ofNat_of_zero_le hfa.1
    rw [show ((cn : Int)).toNat = cn from rfl] at hlm eq k
    rw [show ((fn : Int)).toNat = fn from rfl] at k
    generalize ns.length / cn = m at hlm eq
    have hb := mag_bound (nf c1)
    have hl2 : (ns.map sg).length = cn * m := by rw [List.length_map]; exact hlm
    have hvl : (varsI fn cn (ns.map sg)).length ≤ cn := by
      unfold varsI
      rw [List.length_map, vars_is]
      have h := List.length_filter_le (fun star => decide ((fn : Int) * max 1 (Sh70.median (scats cn (ns.map sg))) < Sh70.intAt (scats cn (ns.map sg)) star)) (List.range cn)
      rw [List.length_range] at h
      exact h
    refine q_asgL (xs := (varsI fn cn (ns.map sg)).map V.int) (el_callP (ep_mkTable (m := m) (ns := ns.map sg) (ea_cons (ev_var rfl) (ea_cons (ev_var rfl) ea_nil)) (sq_new (e3 _ _ hv)) (by omega) (by omega) (by omega) (by omega) hl2) (ea_cons (ev_var rfl) ea_nil) fun v4 H4 H5 e4 ⟨x, dx, p, qs, ev4, hT⟩ e5 Q4 q4 => ⟨x, dx, p, qs, cn, m, ns.map sg, fn, by rw [ev4], hT.mono e5, hb, by omega, q4⟩) fun d H6 _ e6 hd => ?_
    refine s_retL (xs := ([((varsI fn cn (ns.map sg)).length : Int)] : List Int).map V.int ++ (varsI fn cn (ns.map sg)).map V.int) (el_catV (el_lst (ea_cons ?_ ea_nil) small) (ev_var rfl) hd ?_) ?_
    · exact ev_is (ev_len (ev_var rfl) (sq_new hd)) (by rw [List.length_map])
    · simp only [List.length_map, List.length_cons, List.length_nil]
      omega
    · rw [← List.map_append]
      exact retL_mono k (((e1.trans e2).trans e3).trans e6)
end
/-! ### what the top has written: every address a letter -/
theorem all_mk {P : Program} {w : World} {K : PySem.W.Frag} {h : Heap} {mg : Str → Option Value} {fa CTable f0 f1 f2 f3 f4 f5 f6 f7 f8 f9 f10 f11 : Addr} (X : K.In h) (G : h.Ns mainGlobals mg) (hfa : mg "variable_stars" = some (.ref fa))
    {od0 an0 od1 an1 od2 an2 od3 an3 od4 an4 od5 an5 od6 an6 od7 an7 od8 an8 od9 an9 od10 an10 od11 an11 : Option Addr} {sl0 sl1 sl2 sl3 sl4 sl5 sl6 sl7 sl8 sl9 sl10 sl11 : Array (Option Value)} {oc0 kV0 dc0 pm0 ct0 cd0 oc1 kV1 dc1 pm1 ct1 cd1 oc2 kV2 dc2 pm2 ct2 cd2 oc3 kV3 dc3 pm3 ct3 cd3 oc4 kV4 dc4 pm4 ct4 cd4 oc5 kV5 dc5 pm5 ct5 cd5 oc6 kV6 dc6 pm6 ct6 cd6 oc7 kV7 dc7 pm7 ct7 cd7 oc8 kV8 dc8 pm8 ct8 cd8 oc9 kV9 dc9 pm9 ct9 cd9 oc10 kV10 dc10 pm10 ct10 cd10 oc11 kV11 dc11 pm11 ct11 cd11 : Value} {t_SMALL t_OUT_OF_RANGE t_BAD_MAGNITUDE t_MOST_STARS t_MOST_IMAGES t_MOST_MAGNITUDE t_GRAIN t_MOST_WEIGHT : Tok}
    (aTable : PySem.W.nsIn K mainGlobals "Table" = some (some (.ref CTable)))
    (a0 : PySem.W.nsIn K mainGlobals "signed" = some (some (.ref f0)))
    (l0 : K.lookup f0 = some ⟨oc0, od0, .func (PySem.W.fnOf "signed" "signed" (defArgs sSigned) (defBody sSigned) (defScope sSigned) .none kV0 dc0 pm0 an0 cd0 ct0), sl0⟩)
    (c0 : PySem.W.codeIn K cd0 "signed" = true)
    (k0 : PySem.W.keepIn K (.ref f0) = true)
    (a1 : PySem.W.nsIn K mainGlobals "median" = some (some (.ref f1)))
    (l1 : K.lookup f1 = some ⟨oc1, od1, .func (PySem.W.fnOf "median" "median" (defArgs sMedian) (defBody sMedian) (defScope sMedian) .none kV1 dc1 pm1 an1 cd1 ct1), sl1⟩)
    (c1 : PySem.W.codeIn K cd1 "median" = true)
    (k1 : PySem.W.keepIn K (.ref f1) = true)
    (a2 : PySem.W.nsIn K mainGlobals "spread" = some (some (.ref f2)))
    (l2 : K.lookup f2 = some ⟨oc2, od2, .func (PySem.W.fnOf "spread" "spread" (defArgs sSpread) (defBody sSpread) (defScope sSpread) .none kV2 dc2 pm2 an2 cd2 ct2), sl2⟩)
    (c2 : PySem.W.codeIn K cd2 "spread" = true)
    (k2 : PySem.W.keepIn K (.ref f2) = true)
    (a3 : PySem.W.nsIn K mainGlobals "scatter" = some (some (.ref f3)))
    (l3 : K.lookup f3 = some ⟨oc3, od3, .func (PySem.W.fnOf "scatter" "scatter" (defArgs sScatter) (defBody sScatter) (defScope sScatter) .none kV3 dc3 pm3 an3 cd3 ct3), sl3⟩)
    (c3 : PySem.W.codeIn K cd3 "scatter" = true)
    (k3 : PySem.W.keepIn K (.ref f3) = true)
    (a4 : PySem.W.findIn K (.ref CTable) "__init__" = some (some (.ref f4)))
    (i4 : PySem.W.isFn K (.ref f4) = true)
    (l4 : K.lookup f4 = some ⟨oc4, od4, .func (PySem.W.fnOf "__init__" "Table.__init__" (defArgs sTInit) (defBody sTInit) (defScope sTInit) .none kV4 dc4 pm4 an4 cd4 ct4), sl4⟩)
    (c4 : PySem.W.codeIn K cd4 "Table.__init__" = true)
    (k4 : PySem.W.keepIn K (.ref f4) = true)
    (a5 : PySem.W.findIn K (.ref CTable) "star" = some (some (.ref f5)))
    (i5 : PySem.W.isFn K (.ref f5) = true)
    (l5 : K.lookup f5 = some ⟨oc5, od5, .func (PySem.W.fnOf "star" "Table.star" (defArgs sTStar) (defBody sTStar) (defScope sTStar) .none kV5 dc5 pm5 an5 cd5 ct5), sl5⟩)
    (c5 : PySem.W.codeIn K cd5 "Table.star" = true)
    (k5 : PySem.W.keepIn K (.ref f5) = true)
    (a6 : PySem.W.findIn K (.ref CTable) "scatters" = some (some (.ref f6)))
    (i6 : PySem.W.isFn K (.ref f6) = true)
    (l6 : K.lookup f6 = some ⟨oc6, od6, .func (PySem.W.fnOf "scatters" "Table.scatters" (defArgs sTScatters) (defBody sTScatters) (defScope sTScatters) .none kV6 dc6 pm6 an6 cd6 ct6), sl6⟩)
    (c6 : PySem.W.codeIn K cd6 "Table.scatters" = true)
    (k6 : PySem.W.keepIn K (.ref f6) = true)
    (a7 : PySem.W.nsIn K mainGlobals "variables" = some (some (.ref f7)))
    (l7 : K.lookup f7 = some ⟨oc7, od7, .func (PySem.W.fnOf "variables" "variables" (defArgs sVars) (defBody sVars) (defScope sVars) .none kV7 dc7 pm7 an7 cd7 ct7), sl7⟩)
    (c7 : PySem.W.codeIn K cd7 "variables" = true)
    (k7 : PySem.W.keepIn K (.ref f7) = true)
    (a8 : PySem.W.nsIn K mainGlobals "table_error" = some (some (.ref f8)))
    (l8 : K.lookup f8 = some ⟨oc8, od8, .func (PySem.W.fnOf "table_error" "table_error" (defArgs sTabErr) (defBody sTabErr) (defScope sTabErr) .none kV8 dc8 pm8 an8 cd8 ct8), sl8⟩)
    (c8 : PySem.W.codeIn K cd8 "table_error" = true)
    (k8 : PySem.W.keepIn K (.ref f8) = true)
    (a9 : PySem.W.nsIn K mainGlobals "are_magnitudes" = some (some (.ref f9)))
    (l9 : K.lookup f9 = some ⟨oc9, od9, .func (PySem.W.fnOf "are_magnitudes" "are_magnitudes" (defArgs sAreMag) (defBody sAreMag) (defScope sAreMag) .none kV9 dc9 pm9 an9 cd9 ct9), sl9⟩)
    (c9 : PySem.W.codeIn K cd9 "are_magnitudes" = true)
    (k9 : PySem.W.keepIn K (.ref f9) = true)
    (a10 : PySem.W.nsIn K mainGlobals "signed_list" = some (some (.ref f10)))
    (l10 : K.lookup f10 = some ⟨oc10, od10, .func (PySem.W.fnOf "signed_list" "signed_list" (defArgs sSignedList) (defBody sSignedList) (defScope sSignedList) .none kV10 dc10 pm10 an10 cd10 ct10), sl10⟩)
    (c10 : PySem.W.codeIn K cd10 "signed_list" = true)
    (k10 : PySem.W.keepIn K (.ref f10) = true)
    (a11 : PySem.W.nsIn K mainGlobals "variable_stars" = some (some (.ref f11)))
    (l11 : K.lookup f11 = some ⟨oc11, od11, .func (PySem.W.fnOf "variable_stars" "variable_stars" (defArgs sVar) (defBody sVar) (defScope sVar) .none kV11 dc11 pm11 an11 cd11 ct11), sl11⟩)
    (c11 : PySem.W.codeIn K cd11 "variable_stars" = true)
    (k11 : PySem.W.keepIn K (.ref f11) = true)
    (pgTable : PySem.W.plainGet K CTable Str.empty = true)
    (hdTable : PySem.W.hasDictIn K CTable = true)
    (poTable : PySem.W.plainOver K CTable = true)
    (saTable : PySem.W.findIn K (.ref CTable) "__setattr__" = some (some (.builtin "object.__setattr__")))
    (mkTable : PySem.W.makesIn K CTable = true)
    (kcTable : PySem.W.keepIn K (.ref CTable) = true)
    (nTable_star_count : PySem.W.findIn K (.ref CTable) "star_count" = some none)
    (nTable_images : PySem.W.findIn K (.ref CTable) "images" = some none)
    (g_SMALL : PySem.W.nsIn K mainGlobals "SMALL" = some (some (.int 4294967296 t_SMALL)))
    (g_OUT_OF_RANGE : PySem.W.nsIn K mainGlobals "OUT_OF_RANGE" = some (some (.int (-2) t_OUT_OF_RANGE)))
    (g_BAD_MAGNITUDE : PySem.W.nsIn K mainGlobals "BAD_MAGNITUDE" = some (some (.int (-3) t_BAD_MAGNITUDE)))
    (g_MOST_STARS : PySem.W.nsIn K mainGlobals "MOST_STARS" = some (some (.int 32 t_MOST_STARS)))
    (g_MOST_IMAGES : PySem.W.nsIn K mainGlobals "MOST_IMAGES" = some (some (.int 64 t_MOST_IMAGES)))
    (g_MOST_MAGNITUDE : PySem.W.nsIn K mainGlobals "MOST_MAGNITUDE" = some (some (.int 99999 t_MOST_MAGNITUDE)))
    (g_GRAIN : PySem.W.nsIn K mainGlobals "GRAIN" = some (some (.int 256 t_GRAIN)))
    (g_MOST_WEIGHT : PySem.W.nsIn K mainGlobals "MOST_WEIGHT" = some (some (.int 65535 t_MOST_WEIGHT)))
    (z_len : PySem.W.nsIn K mainGlobals "len" = some none)
    (z_sum : PySem.W.nsIn K mainGlobals "sum" = some none)
    (z_range : PySem.W.nsIn K mainGlobals "range" = some none)
    (z_all : PySem.W.nsIn K mainGlobals "all" = some none)
    (z_abs : PySem.W.nsIn K mainGlobals "abs" = some none)
    (z_sorted : PySem.W.nsIn K mainGlobals "sorted" = some none)
    (z_max : PySem.W.nsIn K mainGlobals "max" = some none)
    :
    ∃ fd : FuncData, (∀ (s : Shared) (us : List Value), us.length = (["star_count", "factor", "magnitudes"] : List Str).length → BindsTo s fd ⟨us, []⟩ ((["star_count", "factor", "magnitudes"] : List Str).zip us)) ∧ ∀ base : Heap, K.In base → base.Ns mainGlobals mg → FnOk P w K mg base CX0 5 fa fd ["star_count", "factor", "magnitudes"] (spVar K) := by
  have e := hfa.symm.trans (PySem.W.mg_of X G a11)
  cases e
  have T_Table : Cls K CTable := ⟨pgTable, hdTable, poTable, saTable⟩
  have m_Table := PySem.W.mg_of X G aTable
  have F_signed := fun_mk (st := sSigned) l0 c0 k0
  have b_signed := F_signed.binds (ps := ["number"]) fun _ _ _ _ _ _ us hl => match us, hl with | [_], _ => rfl
  have m_signed := PySem.W.mg_of X G a0
  have F_median := fun_mk (st := sMedian) l1 c1 k1
  have b_median := F_median.binds (ps := ["values"]) fun _ _ _ _ _ _ us hl => match us, hl with | [_], _ => rfl
  have m_median := PySem.W.mg_of X G a1
  have F_spread := fun_mk (st := sSpread) l2 c2 k2
  have b_spread := F_spread.binds (ps := ["values"]) fun _ _ _ _ _ _ us hl => match us, hl with | [_], _ => rfl
  have m_spread := PySem.W.mg_of X G a2
  have F_scatter := fun_mk (st := sScatter) l3 c3 k3
  have b_scatter := F_scatter.binds (ps := ["values"]) fun _ _ _ _ _ _ us hl => match us, hl with | [_], _ => rfl
  have m_scatter := PySem.W.mg_of X G a3
  have F_Table___init__ := fun_mk (st := sTInit) l4 c4 k4
  have b_Table___init__ := F_Table___init__.binds (ps := ["self", "star_count", "magnitudes"]) fun _ _ _ _ _ _ us hl => match us, hl with | [_, _, _], _ => rfl
  have mk_Table : Mk K CTable f4 := ⟨mkTable, a4, i4, kcTable⟩
  have F_Table_star := fun_mk (st := sTStar) l5 c5 k5
  have b_Table_star := F_Table_star.binds (ps := ["self", "number"]) fun _ _ _ _ _ _ us hl => match us, hl with | [_, _], _ => rfl
  have m_Table_star : Meth K CTable "star" f5 := ⟨a5, i5, k5⟩
  have F_Table_scatters := fun_mk (st := sTScatters) l6 c6 k6
  have b_Table_scatters := F_Table_scatters.binds (ps := ["self"]) fun _ _ _ _ _ _ us hl => match us, hl with | [_], _ => rfl
  have m_Table_scatters : Meth K CTable "scatters" f6 := ⟨a6, i6, k6⟩
  have F_variables := fun_mk (st := sVars) l7 c7 k7
  have b_variables := F_variables.binds (ps := ["table", "factor"]) fun _ _ _ _ _ _ us hl => match us, hl with | [_, _], _ => rfl
  have m_variables := PySem.W.mg_of X G a7
  have F_table_error := fun_mk (st := sTabErr) l8 c8 k8
  have b_table_error := F_table_error.binds (ps := ["star_count", "magnitudes"]) fun _ _ _ _ _ _ us hl => match us, hl with | [_, _], _ => rfl
  have m_table_error := PySem.W.mg_of X G a8
  have F_are_magnitudes := fun_mk (st := sAreMag) l9 c9 k9
  have b_are_magnitudes := F_are_magnitudes.binds (ps := ["numbers"]) fun _ _ _ _ _ _ us hl => match us, hl with | [_], _ => rfl
  have m_are_magnitudes := PySem.W.mg_of X G a9
  have F_signed_list := fun_mk (st := sSignedList) l10 c10 k10
  have b_signed_list := F_signed_list.binds (ps := ["numbers"]) fun _ _ _ _ _ _ us hl => match us, hl with | [_], _ => rfl
  have m_signed_list := PySem.W.mg_of X G a10
  have F_variable_stars := fun_mk (st := sVar) l11 c11 k11
  have b_variable_stars := F_variable_stars.binds (ps := ["star_count", "factor", "magnitudes"]) fun _ _ _ _ _ _ us hl => match us, hl with | [_, _, _], _ => rfl
  have m_variable_stars := PySem.W.mg_of X G a11
  have g_SMALL : GI mg "SMALL" 4294967296 := ⟨_, PySem.W.mg_of X G g_SMALL⟩
  have g_OUT_OF_RANGE : GI mg "OUT_OF_RANGE" (-2) := ⟨_, PySem.W.mg_of X G g_OUT_OF_RANGE⟩
  have g_BAD_MAGNITUDE : GI mg "BAD_MAGNITUDE" (-3) := ⟨_, PySem.W.mg_of X G g_BAD_MAGNITUDE⟩
  have g_MOST_STARS : GI mg "MOST_STARS" 32 := ⟨_, PySem.W.mg_of X G g_MOST_STARS⟩
  have g_MOST_IMAGES : GI mg "MOST_IMAGES" 64 := ⟨_, PySem.W.mg_of X G g_MOST_IMAGES⟩
  have g_MOST_MAGNITUDE : GI mg "MOST_MAGNITUDE" 99999 := ⟨_, PySem.W.mg_of X G g_MOST_MAGNITUDE⟩
  have g_GRAIN : GI mg "GRAIN" 256 := ⟨_, PySem.W.mg_of X G g_GRAIN⟩
  have g_MOST_WEIGHT : GI mg "MOST_WEIGHT" 65535 := ⟨_, PySem.W.mg_of X G g_MOST_WEIGHT⟩
  have z_len := PySem.W.mg_none_of X G z_len
  have z_sum := PySem.W.mg_none_of X G z_sum
  have z_range := PySem.W.mg_none_of X G z_range
  have z_all := PySem.W.mg_none_of X G z_all
  have z_abs := PySem.W.mg_none_of X G z_abs
  have z_sorted := PySem.W.mg_none_of X G z_sorted
  have z_max := PySem.W.mg_none_of X G z_max
  have TT : TabTxt K CTable := ⟨T_Table, nTable_star_count, nTable_images⟩
  exact ⟨PySem.W.fnOf "variable_stars" "variable_stars" (defArgs sVar) (defBody sVar) (defScope sVar) .none kV11 dc11 pm11 an11 cd11 ct11, fun s us hu => match us, hu with | [_, _, _], _ => .of_eq rfl, fun base _ _ => ok_var F_variable_stars (ok_table_error F_table_error g_MOST_STARS g_MOST_IMAGES z_len) F_table_error.kp b_table_error m_table_error (ok_signed_list F_signed_list F_signed b_signed m_signed g_SMALL) F_signed_list.kp b_signed_list m_signed_list (ok_are_mag F_are_magnitudes g_MOST_MAGNITUDE z_all z_abs) F_are_magnitudes.kp b_are_magnitudes m_are_magnitudes (ok_tinit F_Table___init__ TT z_range z_len) mk_Table b_Table___init__ m_Table (ok_vars F_variables TT (ok_tscatters F_Table_scatters TT F_Table_star b_Table_star m_Table_star F_scatter b_scatter m_scatter F_spread b_spread m_spread g_GRAIN z_sum z_len z_range) m_Table_scatters b_Table_scatters F_median b_median m_median z_sorted z_len z_range z_max) F_variables.kp b_variables m_variables g_OUT_OF_RANGE g_BAD_MAGNITUDE g_MOST_WEIGHT z_len⟩
end LC
open PySem PySem.W PyProof.Rows
set_option maxRecDepth 100000 in
set_option maxHeartbeats 8000000 in
theorem PySem.Challenge.cw_lightcurves_s05_variable_stars_holds : PySem.Challenge.rw_lightcurves_s05_variable_stars.Holds := by
  w_on; k_headS; (case hw => exact ⟨[.int 0, .int 0, .list []], by decide +kernel, by decide +kernel⟩)
  k_fillS
  refine L2.walk_specK (r := PySem.Challenge.rw_lightcurves_s05_variable_stars) (k := 5) (CX := L2.CX0) (ps := ["star_count", "factor", "magnitudes"]) (sp := fun K => LC.spVar K) (by decide +kernel) rfl rfl ⟨rfl, by decide, by decide⟩ (fun w h Y => PySem.W.kIn_of Y) ?F ?S (fun _ _ _ _ z => z)
  case F =>
    intro w mg fa h Y KX G hmg
    refine' LC.all_mk KX G hmg ?aTable ?a0 ?l0 ?c0 ?k0 ?a1 ?l1 ?c1 ?k1 ?a2 ?l2 ?c2 ?k2 ?a3 ?l3 ?c3 ?k3 ?a4 ?i4 ?l4 ?c4 ?k4 ?a5 ?i5 ?l5 ?c5 ?k5 ?a6 ?i6 ?l6 ?c6 ?k6 ?a7 ?l7 ?c7 ?k7 ?a8 ?l8 ?c8 ?k8 ?a9 ?l9 ?c9 ?k9 ?a10 ?l10 ?c10 ?k10 ?a11 ?l11 ?c11 ?k11 ?pgTable ?hdTable ?poTable ?saTable ?mkTable ?kcTable ?nTable_star_count ?nTable_images ?g_SMALL ?g_OUT_OF_RANGE ?g_BAD_MAGNITUDE ?g_MOST_STARS ?g_MOST_IMAGES ?g_MOST_MAGNITUDE ?g_GRAIN ?g_MOST_WEIGHT ?z_len ?z_sum ?z_range ?z_all ?z_abs ?z_sorted ?z_max
    (case aTable => k_is)
    (case a0 => k_is)
    (case l0 => k_is)
    (case c0 => k_is)
    (case k0 => k_is)
    (case a1 => k_is)
    (case l1 => k_is)
    (case c1 => k_is)
    (case k1 => k_is)
    (case a2 => k_is)
    (case l2 => k_is)
    (case c2 => k_is)
    (case k2 => k_is)
    (case a3 => k_is)
    (case l3 => k_is)
    (case c3 => k_is)
    (case k3 => k_is)
    (case a4 => k_is)
    (case i4 => k_is)
    (case l4 => k_is)
    (case c4 => k_is)
    (case k4 => k_is)
    (case a5 => k_is)
    (case i5 => k_is)
    (case l5 => k_is)
    (case c5 => k_is)
    (case k5 => k_is)
    (case a6 => k_is)
    (case i6 => k_is)
    (case l6 => k_is)
    (case c6 => k_is)
    (case k6 => k_is)
    (case a7 => k_is)
    (case l7 => k_is)
    (case c7 => k_is)
    (case k7 => k_is)
    (case a8 => k_is)
    (case l8 => k_is)
    (case c8 => k_is)
    (case k8 => k_is)
    (case a9 => k_is)
    (case l9 => k_is)
    (case c9 => k_is)
    (case k9 => k_is)
    (case a10 => k_is)
    (case l10 => k_is)
    (case c10 => k_is)
    (case k10 => k_is)
    (case a11 => k_is)
    (case l11 => k_is)
    (case c11 => k_is)
    (case k11 => k_is)
    (case pgTable => k_is)
    (case hdTable => k_is)
    (case poTable => k_is)
    (case saTable => k_is)
    (case mkTable => k_is)
    (case kcTable => k_is)
    (case nTable_star_count => k_is)
    (case nTable_images => k_is)
    (case g_SMALL => k_is)
    (case g_OUT_OF_RANGE => k_is)
    (case g_BAD_MAGNITUDE => k_is)
    (case g_MOST_STARS => k_is)
    (case g_MOST_IMAGES => k_is)
    (case g_MOST_MAGNITUDE => k_is)
    (case g_GRAIN => k_is)
    (case g_MOST_WEIGHT => k_is)
    (case z_len => k_is)
    (case z_sum => k_is)
    (case z_range => k_is)
    (case z_all => k_is)
    (case z_abs => k_is)
    (case z_sorted => k_is)
    (case z_max => k_is)
  case S =>
    intro K H xs a hO hwi hask hx
    obtain ⟨c, fa, ns, u⟩ := a
    obtain ⟨x0, r0, rfl, d0, hx⟩ := LC.dw_cons hx
    obtain ⟨x1, r1, rfl, d1, hx⟩ := LC.dw_cons hx
    obtain ⟨x2, r2, rfl, d2, hx⟩ := LC.dw_cons hx
    cases LC.dw_nil hx
    cases LC.dw_int d0
    cases LC.dw_int d1
    obtain ⟨p_ns, rfl, h_ns⟩ := LC.dw_list d2
    have q : (Codec.inInt 0 4294967295 c && (Codec.inInt 0 4294967295 fa && ((Codec.inLen 0 2200 ns && ns.all (Codec.inInt 0 4294967295)) && true))) = true := hwi
    have q0 := q
    obtain ⟨w_c, q0⟩ := Bool.and_eq_true_iff.mp q0
    have u_c := LC.u32_of w_c
    obtain ⟨w_fa, q0⟩ := Bool.and_eq_true_iff.mp q0
    have u_fa := LC.u32_of w_fa
    obtain ⟨w_ns, q0⟩ := Bool.and_eq_true_iff.mp q0
    have u_ns := LC.u32s_of w_ns
    exact ⟨c, fa, p_ns, ns, rfl, h_ns, u_c, u_fa, u_ns, LC.var_asked u_c.1 u_fa.1 hask, fun p H2 _ _ hp => LC.dw_ans hp⟩
