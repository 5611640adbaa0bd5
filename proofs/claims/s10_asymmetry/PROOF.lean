import PyProof.Rows.All
import Wide.All
import OpenK.AllK
import Wide.FinOn
import Open.SpecLaws
import KE.OsGo
import HandS.ForSpec
import HandS.Comp
import HandS.Iter
import HandS.Walk
import HandS.Evl
import HandS.Wide
import HandS.NoneIn
import HandS.SortInts
import PyProof.Rows.ChunkEnd
import KE.OsSort
import PySem.Challenge.RW_lightcurves_s10_asymmetry
namespace LC
/-! ### numbers -/
/-- the signed number that is told by one from 0 on -/
def sg (n : Int) : Int := if 2147483648 ≤ n then n - 4294967296 else n
theorem sg_signed {n : Int} (h : 0 ≤ n) : sg n = Sh70.signed32 n.toNat := by
  unfold sg Sh70.signed32
  split <;> split <;> omega
theorem sg_words : ∀ {ns : List Int}, (∀ n ∈ ns, 0 ≤ n) → Sh70.signedWords (Sh70Neutral.toNats ns) = ns.map sg
  | [], _ => rfl
  | n :: r, h => by
    have ih := sg_words (ns := r) fun m hm => h m (List.mem_cons_of_mem _ hm)
    show Sh70.signed32 n.toNat :: Sh70.signedWords (Sh70Neutral.toNats r) = sg n :: r.map sg
    rw [ih, sg_signed (h n (List.mem_cons_self ..))]
theorem toInt32_sg {n : Int} (h : 0 ≤ n) : Sh70Neutral.toInt32 n.toNat = sg n := by
  unfold sg Sh70Neutral.toInt32
  split <;> split <;> omega
theorem toNats_len (ns : List Int) : (Sh70Neutral.toNats ns).length = ns.length := by
  unfold Sh70Neutral.toNats
  rw [List.length_map]
theorem sum_eq (l : List Int) : Sh70.sum l = l.sum := rfl
theorem w32 : ∀ l : List Int, Sh70Neutral.toInts (l.map Sh70.word32) = l.map fun z => z % 4294967296
  | [] => rfl
  | z :: r => by
    show ((Sh70.word32 z : Nat) : Int) :: Sh70Neutral.toInts (r.map Sh70.word32) = z % 4294967296 :: r.map fun z => z % 4294967296
    rw [w32 r]
    have e : ((Sh70.word32 z : Nat) : Int) = z % 4294967296 := by
      unfold Sh70.word32
      omega
    rw [e]
theorem w64 (z : Int) : ((Sh70.word64 z : Nat) : Int) = z % 18446744073709551616 := by
  unfold Sh70.word64
  omega
/-- what the program asks of a magnitude -/
def magOk (z : Int) : Bool := decide ((if z < 0 then -z else z) ≤ 99999)
theorem mag_is (z : Int) : magOk z = decide (z.natAbs < 100000) := by
  unfold magOk
  by_cases h : z < 0
  · rw [if_pos h]
    exact decide_eq_decide.mpr (by omega)
  · rw [if_neg h]
    exact decide_eq_decide.mpr (by omega)
theorem mags_are (l : List Int) : l.all magOk = Sh70.areValidMagnitudes l := by
  unfold Sh70.areValidMagnitudes
  rw [show magOk = fun a => decide (a.natAbs < 100000) from funext mag_is]
/-- the counts of a table -/
def tabOk (sc len : Int) : Bool := decide (1 ≤ sc) && decide (sc ≤ 32) && (decide (1 ≤ len / sc) && decide (len / sc ≤ 64))
theorem tab_is {sc : Int} {n : Nat} (h : 0 ≤ sc) : Sh70.isTableSize sc.toNat (n / sc.toNat) = tabOk sc (n : Int) := by
  obtain ⟨k, rfl⟩ := Int.eq_ofNat_of_zero_le h
  unfold Sh70.isTableSize Sh70.isBetween tabOk
  rw [show ((k : Int)).toNat = k from rfl]
  have e1 : decide (1 ≤ k) = decide ((1 : Int) ≤ (k : Int)) := decide_eq_decide.mpr (by omega)
  have e2 : decide (k ≤ 32) = decide ((k : Int) ≤ 32) := decide_eq_decide.mpr (by omega)
  have e0 : (n : Int) / (k : Int) = ((n / k : Nat) : Int) := (Int.natCast_ediv n k).symm
  have e3 : decide (1 ≤ n / k) = decide ((1 : Int) ≤ (n : Int) / (k : Int)) := decide_eq_decide.mpr (by rw [e0]; omega)
  have e4 : decide (n / k ≤ 64) = decide ((n : Int) / (k : Int) ≤ 64) := decide_eq_decide.mpr (by rw [e0]; omega)
  rw [e1, e2, e3, e4]
/-- one item more -/
theorem take_more {α : Type} : ∀ {l : List α} {i : Nat} {x : α}, l[i]? = some x → l.take (i + 1) = l.take i ++ [x]
  | [], i, x, h => by simp at h
  | a :: l, 0, x, h => by
    have e : a = x := Option.some.inj h
    subst e
    rfl
  | a :: l, i + 1, x, h => by
    have ih := take_more (l := l) (i := i) (x := x) h
    show a :: l.take (i + 1) = a :: l.take i ++ [x]
    rw [ih]
    rfl
theorem map_get {α β : Type} {f : α → β} {l : List α} {i : Nat} {y : β} (h : (l.map f)[i]? = some y) : ∃ x, l[i]? = some x ∧ y = f x := by
  rw [List.getElem?_map] at h
  cases e : l[i]? with
  | none =>
    rw [e] at h
    cases h
  | some x =>
    rw [e] at h
    exact ⟨x, rfl, (Option.some.inj h).symm⟩
end LC
namespace LC
/-! ### sums and squares -/
/-- how many there are times the sum of their squares, less the square of their sum -/
def spr (l : List Int) : Int := (l.length : Int) * (l.map fun a => a * a).sum - l.sum * l.sum
def dev (a : Int) (l : List Int) : Int := (l.map fun x => (x - a) * (x - a)).sum
theorem sq_nonneg (a : Int) : 0 ≤ a * a := by
  rcases Int.le_total 0 a with h | h
  · exact Int.mul_nonneg h h
  · exact Int.mul_nonneg_of_nonpos_of_nonpos h h
theorem dev_nonneg (a : Int) : ∀ l, 0 ≤ dev a l
  | [] => Int.le_refl 0
  | x :: r => by
    show 0 ≤ ((x - a) * (x - a) :: r.map fun x => (x - a) * (x - a)).sum
    rw [List.sum_cons]
    exact Int.add_nonneg (sq_nonneg _) (dev_nonneg a r)
theorem dev_eq (a : Int) : ∀ l : List Int, dev a l = (l.map fun a => a * a).sum - 2 * (a * l.sum) + (l.length : Int) * (a * a)
  | [] => by simp [dev]
  | x :: r => by
    have ih := dev_eq a r
    have e : dev a (x :: r) = (x - a) * (x - a) + dev a r := by
      show ((x - a) * (x - a) :: r.map fun x => (x - a) * (x - a)).sum = _
      rw [List.sum_cons]
      rfl
    rw [e, ih, List.map_cons, List.sum_cons, List.sum_cons, List.length_cons]
    have h1 : (x - a) * (x - a) = x * x - 2 * (a * x) + a * a := by
      rw [Int.sub_mul, Int.mul_sub, Int.mul_sub, Int.mul_comm x a]
      omega
    have h2 : a * (x + r.sum) = a * x + a * r.sum := Int.mul_add _ _ _
    have h3 : ((r.length + 1 : Nat) : Int) * (a * a) = (r.length : Int) * (a * a) + a * a := by
      rw [Int.natCast_add, Int.add_mul]
      simp
    rw [h1, h2, h3]
    omega
theorem spr_nonneg : ∀ l, 0 ≤ spr l
  | [] => by simp [spr]
  | a :: r => by
    have ih := spr_nonneg r
    have d := dev_nonneg a r
    rw [dev_eq] at d
    unfold spr at ih ⊢
    rw [List.map_cons, List.sum_cons, List.sum_cons, List.length_cons]
    generalize (r.map fun a => a * a).sum = S2 at *
    generalize r.sum = S at *
    have h3 : ((r.length + 1 : Nat) : Int) * (a * a + S2) = (r.length : Int) * (a * a) + (r.length : Int) * S2 + (a * a + S2) := by
      rw [Int.natCast_add, Int.add_mul, Int.mul_add]
      simp
    have h4 : (a + S) * (a + S) = a * a + 2 * (a * S) + S * S := by
      rw [Int.add_mul, Int.mul_add, Int.mul_add, Int.mul_comm S a]
      omega
    rw [h3, h4]
    generalize (r.length : Int) * S2 = x1 at *
    generalize S * S = x2 at *
    generalize a * a = x3 at *
    generalize a * S = x4 at *
    generalize (r.length : Int) * x3 = x5 at *
    omega
theorem sum_bound {b : Int} (hb : 0 ≤ b) : ∀ {l : List Int}, (∀ x ∈ l, -b ≤ x ∧ x ≤ b) → -(b * (l.length : Int)) ≤ l.sum ∧ l.sum ≤ b * (l.length : Int)
  | [], _ => by simp
  | x :: r, h => by
    have ih := sum_bound hb (l := r) fun y hy => h y (List.mem_cons_of_mem _ hy)
    have h0 := h x (List.mem_cons_self ..)
    rw [List.sum_cons, List.length_cons]
    have e : b * ((r.length + 1 : Nat) : Int) = b * (r.length : Int) + b := by
      rw [Int.natCast_add, Int.mul_add]
      simp
    rw [e]
    omega
theorem sq_bound {b x : Int} (h : -b ≤ x ∧ x ≤ b) : x * x ≤ b * b := by
  have h0 : 0 ≤ b := by omega
  rcases Int.le_total 0 x with c | c
  · exact Int.mul_le_mul h.2 h.2 c h0
  · have e : x * x = (-x) * (-x) := by rw [Int.neg_mul_neg]
    rw [e]
    exact Int.mul_le_mul (by omega) (by omega) (by omega) h0
theorem sq_sum_bound {b : Int} : ∀ {l : List Int}, (∀ x ∈ l, -b ≤ x ∧ x ≤ b) → 0 ≤ (l.map fun a => a * a).sum ∧ (l.map fun a => a * a).sum ≤ (b * b) * (l.length : Int)
  | [], _ => by simp
  | x :: r, h => by
    have ih := sq_sum_bound (l := r) fun y hy => h y (List.mem_cons_of_mem _ hy)
    have h0 := h x (List.mem_cons_self ..)
    rw [List.map_cons, List.sum_cons, List.length_cons]
    have e : (b * b) * ((r.length + 1 : Nat) : Int) = (b * b) * (r.length : Int) + b * b := by
      rw [Int.natCast_add, Int.mul_add]
      simp
    have s1 := sq_nonneg x
    have s2 := sq_bound h0
    rw [e]
    omega
theorem mag_bound {l : List Int} (h : Sh70.areValidMagnitudes l = true) : ∀ x ∈ l, -99999 ≤ x ∧ x ≤ 99999 := fun x hx => by
  have e := List.all_eq_true.mp h x hx
  have e2 : x.natAbs < 100000 := of_decide_eq_true e
  omega
theorem spr_spec (l : List Int) : ((l.length : Nat) : Int) * Sh70.sum (l.map fun a => a * a) - Sh70.sum l * Sh70.sum l = spr l := rfl
/-- the scatter, as the program tells it -/
theorem scat_is {l : List Int} (h : 0 < l.length) : ((Sh70.scatter l : Nat) : Int) = (256 * spr l) / ((l.length : Int) * (l.length : Int)) := by
  have e : Sh70.scatter l = (256 * spr l / ((l.length : Int) * (l.length : Int))).toNat := by
    unfold Sh70.scatter
    rw [if_neg (by omega)]
    rfl
  rw [e]
  exact Int.toNat_of_nonneg (Int.ediv_nonneg (Int.mul_nonneg (by decide) (spr_nonneg l)) (sq_nonneg _))
theorem spr_le {b : Int} {l : List Int} (hb : ∀ x ∈ l, -b ≤ x ∧ x ≤ b) : spr l ≤ (b * b) * ((l.length : Int) * (l.length : Int)) := by
  have s := (sq_sum_bound hb).2
  have q := sq_nonneg l.sum
  unfold spr
  have m := Int.mul_le_mul_of_nonneg_left s (show (0 : Int) ≤ (l.length : Int) by omega)
  have e : (l.length : Int) * (b * b * (l.length : Int)) = (b * b) * ((l.length : Int) * (l.length : Int)) := by
    rw [Int.mul_left_comm]
  rw [e] at m
  omega
theorem scat_bound {l : List Int} (hl : 0 < l.length) (h : ∀ x ∈ l, -99999 ≤ x ∧ x ≤ 99999) : Sh70.scatter l < 18446744073709551616 := by
  have e := scat_is hl
  have s := spr_le h
  have p : (0 : Int) < (l.length : Int) * (l.length : Int) := Int.mul_pos (by omega) (by omega)
  have m : (256 * spr l) / ((l.length : Int) * (l.length : Int)) ≤ 256 * (99999 * 99999) := by
    refine Int.ediv_le_of_le_mul p ?_
    generalize (l.length : Int) * (l.length : Int) = nn at *
    omega
  omega
end LC
namespace LC
/-! ### tables -/
theorem getD_some {α : Type} {l : List α} {i : Nat} {d x : α} (h : l[i]? = some x) : l.getD i d = x := by
  rw [List.getD_eq_getElem?_getD, h]
  rfl
theorem intAt_get {l : List Int} {i : Nat} (h : i < l.length) : l[i]? = some (Sh70.intAt l i) := by
  rw [List.getElem?_eq_getElem h]
  unfold Sh70.intAt
  rw [List.getD_eq_getElem?_getD, List.getElem?_eq_getElem h]
  rfl
theorem row_len {sc : Nat} {ns : List Int} {m i : Nat} (hl : ns.length = sc * m) (hi : i < m) : (Sh70.imageRow sc ns i).length = sc := by
  unfold Sh70.imageRow
  rw [List.length_take, List.length_drop, hl]
  have e : i * sc + sc ≤ sc * m := by
    rw [Nat.mul_comm sc m]
    calc i * sc + sc = (i + 1) * sc := by rw [Nat.succ_mul]
      _ ≤ m * sc := Nat.mul_le_mul_right _ hi
  omega
theorem row_get {sc : Nat} {ns : List Int} {m i j : Nat} (hl : ns.length = sc * m) (hi : i < m) (hj : j < sc) : (Sh70.imageRow sc ns i)[j]? = some (Sh70.intAt ns (i * sc + j)) := by
  have e : i * sc + sc ≤ sc * m := by
    rw [Nat.mul_comm sc m]
    calc i * sc + sc = (i + 1) * sc := by rw [Nat.succ_mul]
      _ ≤ m * sc := Nat.mul_le_mul_right _ hi
  unfold Sh70.imageRow
  rw [List.getElem?_take, if_pos hj, List.getElem?_drop]
  exact intAt_get (by omega)
theorem div_len {sc : Nat} {ns : List Int} {m : Nat} (h0 : 0 < sc) (hl : ns.length = sc * m) : ns.length / sc = m := by
  rw [hl]
  exact Nat.mul_div_cancel_left m h0
theorem column_is {sc : Nat} {ns : List Int} {m j : Nat} (h0 : 0 < sc) (hl : ns.length = sc * m) : Sh70.starColumn sc ns j = (List.range m).map fun i => Sh70.intAt ns (i * sc + j) := by
  unfold Sh70.starColumn
  rw [div_len h0 hl]
theorem column_len {sc : Nat} {ns : List Int} {m j : Nat} (h0 : 0 < sc) (hl : ns.length = sc * m) : (Sh70.starColumn sc ns j).length = m := by
  rw [column_is h0 hl, List.length_map, List.length_range]
theorem intAt_mem {l : List Int} {i : Nat} (h : i < l.length) : Sh70.intAt l i ∈ l := List.mem_of_getElem? (intAt_get h)
theorem cell_lt {sc m i j : Nat} (hi : i < m) (hj : j < sc) : i * sc + j < sc * m := by
  have e : i * sc + sc ≤ sc * m := by
    rw [Nat.mul_comm sc m]
    calc i * sc + sc = (i + 1) * sc := by rw [Nat.succ_mul]
      _ ≤ m * sc := Nat.mul_le_mul_right _ hi
  omega
theorem column_bound {sc : Nat} {ns : List Int} {m j : Nat} (h0 : 0 < sc) (hl : ns.length = sc * m) (hj : j < sc) (hb : ∀ x ∈ ns, -99999 ≤ x ∧ x ≤ 99999) : ∀ x ∈ Sh70.starColumn sc ns j, -99999 ≤ x ∧ x ≤ 99999 := fun x hx => by
  rw [column_is h0 hl] at hx
  obtain ⟨i, hi, rfl⟩ := List.mem_map.mp hx
  exact hb _ (intAt_mem (by rw [hl]; exact cell_lt (List.mem_range.mp hi) hj))
theorem medians_len (sc : Nat) (ns : List Int) : (Sh70.starMedians sc ns).length = sc := by
  unfold Sh70.starMedians
  rw [List.length_map, List.length_range]
theorem ext_is {sc : Nat} {ns : List Int} {m : Nat} (h0 : 0 < sc) (hl : ns.length = sc * m) :
    Sh70.extinctions sc ns = (List.range m).map fun i => Sh70.median (((Sh70.imageRow sc ns i).zip (Sh70.starMedians sc ns)).map fun p => p.1 - p.2) := by
  unfold Sh70.extinctions
  rw [div_len h0 hl]
theorem ext_len {sc : Nat} {ns : List Int} {m : Nat} (h0 : 0 < sc) (hl : ns.length = sc * m) : (Sh70.extinctions sc ns).length = m := by
  rw [ext_is h0 hl, List.length_map, List.length_range]
/-! ### corrected -/
/-- the first k images without the extinctions e -/
def corrTo (sc : Nat) (ns e : List Int) (k : Nat) : List Int := (List.range (k * sc)).map fun i => Sh70.intAt ns i - Sh70.intAt e (i / sc)
theorem corr_zero (sc : Nat) (ns e : List Int) : corrTo sc ns e 0 = [] := by
  unfold corrTo
  rw [Nat.zero_mul]
  rfl
theorem row_map {sc : Nat} {ns : List Int} {m k : Nat} (hl : ns.length = sc * m) (hk : k < m) : Sh70.imageRow sc ns k = (List.range sc).map fun j => Sh70.intAt ns (k * sc + j) := by
  apply List.ext_getElem?
  intro j
  by_cases hj : j < sc
  · rw [row_get hl hk hj, List.getElem?_map, List.getElem?_range hj]
    rfl
  · rw [List.getElem?_eq_none (by rw [row_len hl hk]; omega), List.getElem?_eq_none (by rw [List.length_map, List.length_range]; omega)]
theorem corr_step {sc : Nat} {ns e : List Int} {m k : Nat} (hl : ns.length = sc * m) (hk : k < m) : corrTo sc ns e (k + 1) = corrTo sc ns e k ++ (Sh70.imageRow sc ns k).map fun z => z - Sh70.intAt e k := by
  unfold corrTo
  rw [Nat.succ_mul, List.range_add, List.map_append, row_map hl hk, List.map_map, List.map_map]
  congr 1
  apply List.map_congr_left
  intro j hj
  have hj' := List.mem_range.mp hj
  show Sh70.intAt ns (k * sc + j) - Sh70.intAt e ((k * sc + j) / sc) = Sh70.intAt ns (k * sc + j) - Sh70.intAt e k
  have q : (k * sc + j) / sc = k := by
    rw [Nat.mul_comm k sc, Nat.mul_add_div (by omega), Nat.div_eq_of_lt hj']
    rfl
  rw [q]
theorem corr_all {sc : Nat} {ns : List Int} {m : Nat} (hl : ns.length = sc * m) : corrTo sc ns (Sh70.extinctions sc ns) m = Sh70.corrected sc ns := by
  unfold corrTo Sh70.corrected
  rw [hl, Nat.mul_comm sc m]
theorem corr_len {sc : Nat} {ns e : List Int} {k : Nat} : (corrTo sc ns e k).length = k * sc := by
  unfold corrTo
  rw [List.length_map, List.length_range]
/-! ### scatters -/
def scats (sc : Nat) (ns : List Int) : List Int := (List.range sc).map fun star => ((Sh70.scatter (Sh70.starColumn sc ns star) : Nat) : Int)
/-! ### differential magnitudes -/
def others (star : Nat) (ws : List Nat) : List (Nat × Nat) := ws.zipIdx.filter fun entry => entry.2 != star
def wTot (star : Nat) (ws : List Nat) : Int := (((others star ws).map fun entry => entry.1).sum : Nat)
def wSum (star : Nat) (row : List Int) (ws : List Nat) : Int := ((others star ws).map fun entry => (entry.1 : Int) * Sh70.intAt row entry.2).sum
theorem others_more {star i : Nat} {ws : List Nat} {w : Nat} (h : ws[i]? = some w) : others star (ws.take (i + 1)) = others star (ws.take i) ++ (if i != star then [(w, i)] else []) := by
  have hi : i < ws.length := (List.getElem?_eq_some_iff.mp h).1
  unfold others
  rw [take_more h, List.zipIdx_append, List.filter_append]
  have e : (ws.take i).length = i := by
    rw [List.length_take]
    omega
  rw [e]
  congr 1
  show List.filter (fun entry : Nat × Nat => entry.2 != star) [(w, 0 + i)] = _
  rw [Nat.zero_add, List.filter_cons]
  rfl
theorem wTot_in {star i : Nat} {ws : List Nat} {w : Nat} (h : ws[i]? = some w) (c : (i != star) = true) : wTot star (ws.take (i + 1)) = wTot star (ws.take i) + (w : Int) := by
  unfold wTot
  rw [others_more h, if_pos c, List.map_append, List.sum_append]
  show (((((others star (ws.take i)).map fun entry => entry.1).sum + ([w] : List Nat).sum : Nat)) : Int) = _
  rw [show ([w] : List Nat).sum = w by simp]
  omega
theorem wSum_in {star i : Nat} {row : List Int} {ws : List Nat} {w : Nat} (h : ws[i]? = some w) (c : (i != star) = true) : wSum star row (ws.take (i + 1)) = wSum star row (ws.take i) + (w : Int) * Sh70.intAt row i := by
  unfold wSum
  rw [others_more h, if_pos c, List.map_append, List.sum_append]
  show _ + ([(w : Int) * Sh70.intAt row i] : List Int).sum = _
  rw [List.sum_cons]
  show _ + ((w : Int) * Sh70.intAt row i + 0) = _
  omega
theorem wTot_out {star i : Nat} {ws : List Nat} {w : Nat} (h : ws[i]? = some w) (c : ¬ (i != star) = true) : wTot star (ws.take (i + 1)) = wTot star (ws.take i) := by
  unfold wTot
  rw [others_more h, if_neg c, List.append_nil]
theorem wSum_out {star i : Nat} {row : List Int} {ws : List Nat} {w : Nat} (h : ws[i]? = some w) (c : ¬ (i != star) = true) : wSum star row (ws.take (i + 1)) = wSum star row (ws.take i) := by
  unfold wSum
  rw [others_more h, if_neg c, List.append_nil]
theorem nat_sum_bound {b : Nat} : ∀ {l : List Nat}, (∀ x ∈ l, x ≤ b) → l.sum ≤ b * l.length
  | [], _ => by simp
  | x :: r, h => by
    have ih := nat_sum_bound (l := r) fun y hy => h y (List.mem_cons_of_mem _ hy)
    have h0 := h x (List.mem_cons_self ..)
    rw [List.sum_cons, List.length_cons, Nat.mul_succ]
    omega
theorem others_len (star : Nat) (ws : List Nat) : (others star ws).length ≤ ws.length := by
  unfold others
  have h := List.length_filter_le (fun entry : Nat × Nat => entry.2 != star) ws.zipIdx
  rw [List.length_zipIdx] at h
  exact h
theorem others_mem {star : Nat} {ws : List Nat} {p : Nat × Nat} (h : p ∈ others star ws) : p.1 ∈ ws := by
  have h1 := (List.mem_filter.mp h).1
  obtain ⟨x, i⟩ := p
  have h2 := List.mem_zipIdx_iff_getElem?.mp h1
  exact List.mem_of_getElem? h2
theorem wTot_bound {star : Nat} {ws : List Nat} (h : ∀ x ∈ ws, x ≤ 65535) : 0 ≤ wTot star ws ∧ wTot star ws ≤ 65535 * (ws.length : Int) := by
  have b := nat_sum_bound (b := 65535) (l := (others star ws).map fun entry => entry.1) fun x hx => by
    obtain ⟨p, hp, rfl⟩ := List.mem_map.mp hx
    exact h _ (others_mem hp)
  rw [List.length_map] at b
  have c := others_len star ws
  have d : 65535 * (others star ws).length ≤ 65535 * ws.length := Nat.mul_le_mul_left _ c
  unfold wTot
  omega
/-- the differential magnitude, as the program tells it -/
theorem diff_is (ws : List Nat) (star : Nat) (row : List Int) : Sh70.differential ws star row = if 0 < wTot star ws then Sh70.intAt row star - (2 * wSum star row ws + wTot star ws) / (2 * wTot star ws) else 0 := by
  show (if ((others star ws).map fun entry => entry.1).sum = 0 then (0 : Int) else Sh70.intAt row star - (2 * wSum star row ws + wTot star ws) / (2 * wTot star ws)) = _
  by_cases c : ((others star ws).map fun entry => entry.1).sum = 0
  · rw [if_pos c, if_neg (by unfold wTot; omega)]
  · rw [if_neg c, if_pos (by unfold wTot; omega)]
end LC
namespace LC
/-! ### what is due, by the ways of the program -/
theorem toInts_app (a b : List Nat) : Sh70Neutral.toInts (a ++ b) = Sh70Neutral.toInts a ++ Sh70Neutral.toInts b := List.map_append
section
variable {sc : Int} {ns : List Int}
theorem nat_div {n : Nat} {c : Int} (h0 : 0 ≤ c) : ((n / c.toNat : Nat) : Int) = (n : Int) / c := by
  obtain ⟨k, rfl⟩ := Int.eq_ofNat_of_zero_le h0
  exact Int.natCast_ediv n k
theorem tab_facts (h : tabOk sc (ns.length : Int) = true) : 1 ≤ sc ∧ sc ≤ 32 ∧ 1 ≤ (ns.length : Int) / sc ∧ (ns.length : Int) / sc ≤ 64 := by
  unfold tabOk at h
  simp only [Bool.and_eq_true, decide_eq_true_eq] at h
  exact ⟨h.1.1, h.1.2, h.2.1, h.2.2⟩
theorem table_of (h0 : 0 ≤ sc) : Sh70.isTableSize sc.toNat ((Sh70Neutral.toNats ns).length / sc.toNat) = tabOk sc (ns.length : Int) := by
  rw [toNats_len]
  exact tab_is h0
theorem ext_bad (h0 : 0 ≤ sc) (h : tabOk sc (ns.length : Int) = false) : PySh70.extinctions sc ns = [-2] := by
  show (match (some (if Sh70.isTableSize sc.toNat ((Sh70Neutral.toNats ns).length / sc.toNat) = true then Sh70.Call.extinctions sc.toNat (Sh70.signedWords (Sh70Neutral.toNats ns)) else .invalid) : Option Sh70.Call) with | none => [] | some parsed => Sh70Neutral.flatten (Sh70.answer parsed)) = _
  rw [table_of h0, h]
  rfl
theorem ext_mag (h0 : 0 ≤ sc) (hn : ∀ n ∈ ns, 0 ≤ n) (h : tabOk sc (ns.length : Int) = true) (hm : Sh70.areValidMagnitudes (ns.map sg) = false) : PySh70.extinctions sc ns = [-3] := by
  show (match (some (if Sh70.isTableSize sc.toNat ((Sh70Neutral.toNats ns).length / sc.toNat) = true then Sh70.Call.extinctions sc.toNat (Sh70.signedWords (Sh70Neutral.toNats ns)) else .invalid) : Option Sh70.Call) with | none => [] | some parsed => Sh70Neutral.flatten (Sh70.answer parsed)) = _
  rw [table_of h0, h, if_pos rfl, sg_words hn]
  show Sh70Neutral.flatten (if Sh70.areValidMagnitudes (ns.map sg) = false then Sh70.errorAnswer (-3) else _) = _
  rw [if_pos hm]
  rfl
theorem ext_ok (h0 : 0 ≤ sc) (hn : ∀ n ∈ ns, 0 ≤ n) (h : tabOk sc (ns.length : Int) = true) (hm : Sh70.areValidMagnitudes (ns.map sg) = true) :
    PySh70.extinctions sc ns = [0, ((Sh70.starMedians sc.toNat (ns.map sg)).length : Int)] ++ (Sh70.starMedians sc.toNat (ns.map sg)).map (fun z => z % 4294967296) ++ [((Sh70.extinctions sc.toNat (ns.map sg)).length : Int)] ++ (Sh70.extinctions sc.toNat (ns.map sg)).map fun z => z % 4294967296 := by
  show (match (some (if Sh70.isTableSize sc.toNat ((Sh70Neutral.toNats ns).length / sc.toNat) = true then Sh70.Call.extinctions sc.toNat (Sh70.signedWords (Sh70Neutral.toNats ns)) else .invalid) : Option Sh70.Call) with | none => [] | some parsed => Sh70Neutral.flatten (Sh70.answer parsed)) = _
  rw [table_of h0, h, if_pos rfl, sg_words hn]
  show Sh70Neutral.flatten (if Sh70.areValidMagnitudes (ns.map sg) = false then Sh70.errorAnswer (-3) else _) = _
  rw [if_neg (by rw [hm]; decide)]
  show (0 : Int) :: ([(Sh70.starMedians sc.toNat (ns.map sg)).map Sh70.word32, (Sh70.extinctions sc.toNat (ns.map sg)).map Sh70.word32].flatMap fun output : List Nat => ((output.length : Nat) : Int) :: Sh70Neutral.toInts output) = _
  simp only [List.flatMap_cons, List.flatMap_nil, List.append_nil, w32, List.length_map, List.cons_append, List.nil_append, List.append_assoc]
theorem cor_bad (h0 : 0 ≤ sc) (h : tabOk sc (ns.length : Int) = false) : PySh70.corrected_magnitudes sc ns = [-2] := by
  show (match (some (if Sh70.isTableSize sc.toNat ((Sh70Neutral.toNats ns).length / sc.toNat) = true then Sh70.Call.corrected sc.toNat (Sh70.signedWords (Sh70Neutral.toNats ns)) else .invalid) : Option Sh70.Call) with | none => [] | some parsed => Sh70Neutral.flatten (Sh70.answer parsed)) = _
  rw [table_of h0, h]
  rfl
theorem cor_mag (h0 : 0 ≤ sc) (hn : ∀ n ∈ ns, 0 ≤ n) (h : tabOk sc (ns.length : Int) = true) (hm : Sh70.areValidMagnitudes (ns.map sg) = false) : PySh70.corrected_magnitudes sc ns = [-3] := by
  show (match (some (if Sh70.isTableSize sc.toNat ((Sh70Neutral.toNats ns).length / sc.toNat) = true then Sh70.Call.corrected sc.toNat (Sh70.signedWords (Sh70Neutral.toNats ns)) else .invalid) : Option Sh70.Call) with | none => [] | some parsed => Sh70Neutral.flatten (Sh70.answer parsed)) = _
  rw [table_of h0, h, if_pos rfl, sg_words hn]
  show Sh70Neutral.flatten (if Sh70.areValidMagnitudes (ns.map sg) = false then Sh70.errorAnswer (-3) else _) = _
  rw [if_pos hm]
  rfl
theorem cor_ok (h0 : 0 ≤ sc) (hn : ∀ n ∈ ns, 0 ≤ n) (h : tabOk sc (ns.length : Int) = true) (hm : Sh70.areValidMagnitudes (ns.map sg) = true) :
    PySh70.corrected_magnitudes sc ns = [0] ++ (Sh70.corrected sc.toNat (ns.map sg)).map fun z => z % 4294967296 := by
  show (match (some (if Sh70.isTableSize sc.toNat ((Sh70Neutral.toNats ns).length / sc.toNat) = true then Sh70.Call.corrected sc.toNat (Sh70.signedWords (Sh70Neutral.toNats ns)) else .invalid) : Option Sh70.Call) with | none => [] | some parsed => Sh70Neutral.flatten (Sh70.answer parsed)) = _
  rw [table_of h0, h, if_pos rfl, sg_words hn]
  show Sh70Neutral.flatten (if Sh70.areValidMagnitudes (ns.map sg) = false then Sh70.errorAnswer (-3) else _) = _
  rw [if_neg (by rw [hm]; decide)]
  show (0 : Int) :: Sh70Neutral.toInts ((Sh70.corrected sc.toNat (ns.map sg)).map Sh70.word32) = _
  rw [w32]
  rfl
theorem sca_bad (h0 : 0 ≤ sc) (h : tabOk sc (ns.length : Int) = false) : PySh70.scatters sc ns = [-2] := by
  show (match (some (if Sh70.isTableSize sc.toNat ((Sh70Neutral.toNats ns).length / sc.toNat) = true then Sh70.Call.scatters sc.toNat (Sh70.signedWords (Sh70Neutral.toNats ns)) else .invalid) : Option Sh70.Call) with | none => [] | some parsed => Sh70Neutral.flatten (Sh70.answer parsed)) = _
  rw [table_of h0, h]
  rfl
theorem sca_mag (h0 : 0 ≤ sc) (hn : ∀ n ∈ ns, 0 ≤ n) (h : tabOk sc (ns.length : Int) = true) (hm : Sh70.areValidMagnitudes (ns.map sg) = false) : PySh70.scatters sc ns = [-3] := by
  show (match (some (if Sh70.isTableSize sc.toNat ((Sh70Neutral.toNats ns).length / sc.toNat) = true then Sh70.Call.scatters sc.toNat (Sh70.signedWords (Sh70Neutral.toNats ns)) else .invalid) : Option Sh70.Call) with | none => [] | some parsed => Sh70Neutral.flatten (Sh70.answer parsed)) = _
  rw [table_of h0, h, if_pos rfl, sg_words hn]
  show Sh70Neutral.flatten (if Sh70.areValidMagnitudes (ns.map sg) = false then Sh70.errorAnswer (-3) else _) = _
  rw [if_pos hm]
  rfl
theorem scats_bound {c : Nat} {l : List Int} {m : Nat} (h0 : 0 < c) (h1 : 0 < m) (hl : l.length = c * m) (hb : ∀ x ∈ l, -99999 ≤ x ∧ x ≤ 99999) : ∀ z ∈ scats c l, 0 ≤ z ∧ z < 18446744073709551616 := fun z hz => by
  obtain ⟨star, hs, rfl⟩ := List.mem_map.mp hz
  have hs' := List.mem_range.mp hs
  have b := scat_bound (l := Sh70.starColumn c l star) (by rw [column_len h0 hl]; exact h1) (column_bound h0 hl hs' hb)
  omega
theorem scats_get {c : Nat} {l : List Int} {star : Nat} (h : star < c) : (scats c l)[star]? = some ((Sh70.scatter (Sh70.starColumn c l star) : Nat) : Int) := by
  unfold scats
  rw [List.getElem?_map, List.getElem?_range h]
  rfl
theorem map_mod {l : List Int} {b : Int} (h : ∀ z ∈ l, 0 ≤ z ∧ z < b) : l.map (fun z => z % b) = l := by
  have e : l.map (fun z => z % b) = l.map id := List.map_congr_left fun z hz => Int.emod_eq_of_lt (h z hz).1 (h z hz).2
  rw [e, List.map_id]
theorem sca_ok (h0 : 0 ≤ sc) (hn : ∀ n ∈ ns, 0 ≤ n) (h : tabOk sc (ns.length : Int) = true) (hm : Sh70.areValidMagnitudes (ns.map sg) = true) :
    PySh70.scatters sc ns = [0] ++ scats sc.toNat (ns.map sg) := by
  show (match (some (if Sh70.isTableSize sc.toNat ((Sh70Neutral.toNats ns).length / sc.toNat) = true then Sh70.Call.scatters sc.toNat (Sh70.signedWords (Sh70Neutral.toNats ns)) else .invalid) : Option Sh70.Call) with | none => [] | some parsed => Sh70Neutral.flatten (Sh70.answer parsed)) = _
  rw [table_of h0, h, if_pos rfl, sg_words hn]
  show Sh70Neutral.flatten (if Sh70.areValidMagnitudes (ns.map sg) = false then Sh70.errorAnswer (-3) else _) = _
  rw [if_neg (by rw [hm]; decide)]
  show (0 : Int) :: Sh70Neutral.toInts ((List.range sc.toNat).map fun star => Sh70.scatter (Sh70.starColumn sc.toNat (ns.map sg) star)) = _
  unfold scats Sh70Neutral.toInts
  rw [List.map_map]
  rfl
/-! variable stars -/
theorem var_bad {fa : Int} (h0 : 0 ≤ sc) (hf : 0 ≤ fa) (h : (tabOk sc (ns.length : Int) && decide (fa ≤ 65535)) = false) : PySh70.variable_stars sc fa ns = [-2] := by
  show (match (some (if (Sh70.isTableSize sc.toNat ((Sh70Neutral.toNats ns).length / sc.toNat) && decide (fa.toNat ≤ 65535)) = true then Sh70.Call.variableStars fa.toNat sc.toNat (Sh70.signedWords (Sh70Neutral.toNats ns)) else .invalid) : Option Sh70.Call) with | none => [] | some parsed => Sh70Neutral.flatten (Sh70.answer parsed)) = _
  rw [table_of h0, show decide (fa.toNat ≤ 65535) = decide (fa ≤ 65535) from decide_eq_decide.mpr (by omega), h]
  rfl
theorem var_mag {fa : Int} (h0 : 0 ≤ sc) (hf : 0 ≤ fa) (hn : ∀ n ∈ ns, 0 ≤ n) (h : (tabOk sc (ns.length : Int) && decide (fa ≤ 65535)) = true) (hm : Sh70.areValidMagnitudes (ns.map sg) = false) : PySh70.variable_stars sc fa ns = [-3] := by
  show (match (some (if (Sh70.isTableSize sc.toNat ((Sh70Neutral.toNats ns).length / sc.toNat) && decide (fa.toNat ≤ 65535)) = true then Sh70.Call.variableStars fa.toNat sc.toNat (Sh70.signedWords (Sh70Neutral.toNats ns)) else .invalid) : Option Sh70.Call) with | none => [] | some parsed => Sh70Neutral.flatten (Sh70.answer parsed)) = _
  rw [table_of h0, show decide (fa.toNat ≤ 65535) = decide (fa ≤ 65535) from decide_eq_decide.mpr (by omega), h, if_pos rfl, sg_words hn]
  show Sh70Neutral.flatten (if Sh70.areValidMagnitudes (ns.map sg) = false then Sh70.errorAnswer (-3) else _) = _
  rw [if_pos hm]
  rfl
/-- the variable stars, as the program tells them -/
def varsI (fa sc : Nat) (l : List Int) : List Int := (Sh70.variableStars fa sc l).map fun star : Nat => (star : Int)
theorem vars_is (fa sc : Nat) (l : List Int) : Sh70.variableStars fa sc l = (List.range sc).filter fun star => decide ((fa : Int) * max 1 (Sh70.median (scats sc l)) < Sh70.intAt (scats sc l) star) := rfl
theorem var_ok {fa : Int} (h0 : 0 ≤ sc) (hf : 0 ≤ fa) (hn : ∀ n ∈ ns, 0 ≤ n) (h : (tabOk sc (ns.length : Int) && decide (fa ≤ 65535)) = true) (hm : Sh70.areValidMagnitudes (ns.map sg) = true) :
    PySh70.variable_stars sc fa ns = [((varsI fa.toNat sc.toNat (ns.map sg)).length : Int)] ++ varsI fa.toNat sc.toNat (ns.map sg) := by
  show (match (some (if (Sh70.isTableSize sc.toNat ((Sh70Neutral.toNats ns).length / sc.toNat) && decide (fa.toNat ≤ 65535)) = true then Sh70.Call.variableStars fa.toNat sc.toNat (Sh70.signedWords (Sh70Neutral.toNats ns)) else .invalid) : Option Sh70.Call) with | none => [] | some parsed => Sh70Neutral.flatten (Sh70.answer parsed)) = _
  rw [table_of h0, show decide (fa.toNat ≤ 65535) = decide (fa ≤ 65535) from decide_eq_decide.mpr (by omega), h, if_pos rfl, sg_words hn]
  show Sh70Neutral.flatten (if Sh70.areValidMagnitudes (ns.map sg) = false then Sh70.errorAnswer (-3) else _) = _
  rw [if_neg (by rw [hm]; decide)]
  show ((Sh70.variableStars fa.toNat sc.toNat (ns.map sg)).length : Int) :: Sh70Neutral.toInts (Sh70.variableStars fa.toNat sc.toNat (ns.map sg)) = _
  unfold varsI
  rw [List.length_map]
  rfl
end
/-! ### the length of a table that is asked -/
theorem len_asked {sc : Int} {ns : List Int} (h0 : 0 ≤ sc) (h : tabOk sc (ns.length : Int) = true) (ha : (ns.length == (sc.toNat * ((Sh70Neutral.toNats ns).length / sc.toNat))) = true) : ns.length = sc.toNat * (ns.length / sc.toNat) := by
  rw [toNats_len] at ha
  exact eq_of_beq ha
/-- what a table that is in order has: m images -/
structure TabIs (sc : Int) (ns : List Int) (c m : Nat) : Prop where
  sc : sc = (c : Int)
  c0 : 0 < c
  c32 : c ≤ 32
  m0 : 0 < m
  m64 : m ≤ 64
  len : ns.length = c * m
theorem tab_get {sc : Int} {ns : List Int} (h0 : 0 ≤ sc) (h : tabOk sc (ns.length : Int) = true) (ha : (ns.length == (sc.toNat * ((Sh70Neutral.toNats ns).length / sc.toNat))) = true) : TabIs sc ns sc.toNat (ns.length / sc.toNat) := by
  obtain ⟨h1, h2, h3, h4⟩ := tab_facts h
  have e := nat_div (n := ns.length) h0
  exact ⟨by omega, by omega, by omega, by omega, by omega, len_asked h0 h ha⟩
end LC
namespace LC
/-! ### what is asked of a table -/
theorem tab_asked_of {sc : Int} {ns : List Int} {b d : Bool} (h0 : 0 ≤ sc) (h : (if Sh70.isTableSize sc.toNat ((Sh70Neutral.toNats ns).length / sc.toNat) = true then ns.length == (sc.toNat * ((Sh70Neutral.toNats ns).length / sc.toNat)) else d) = true) (ht : tabOk sc (ns.length : Int) = true) : ns.length = sc.toNat * (ns.length / sc.toNat) := by
  rw [table_of h0, if_pos ht] at h
  exact len_asked h0 ht h
theorem ext_asked {sc : Int} {ns : List Int} (h0 : 0 ≤ sc) (h : PySh70.extinctions_asked sc ns = true) : tabOk sc (ns.length : Int) = true → ns.length = sc.toNat * (ns.length / sc.toNat) := by
  have h' : ((Sh70Neutral.fits sc 32 && (Sh70Neutral.allFit ns 32 && ((if (Sh70.isTableSize (sc.toNat) (((Sh70Neutral.toNats ns).length / sc.toNat))) = true then ns.length == (sc.toNat * ((Sh70Neutral.toNats ns).length / sc.toNat)) else ((ns.isEmpty) || (ns.length == (sc.toNat * ((Sh70Neutral.toNats ns).length / sc.toNat)))))))) && decide ((Sh70Neutral.f [[0, sc], ns]).length < 1000000)) = true := h
  rw [Bool.and_eq_true, Bool.and_eq_true, Bool.and_eq_true] at h'
  exact tab_asked_of (b := true) h0 h'.1.2.2
theorem cor_asked {sc : Int} {ns : List Int} (h0 : 0 ≤ sc) (h : PySh70.corrected_magnitudes_asked sc ns = true) : tabOk sc (ns.length : Int) = true → ns.length = sc.toNat * (ns.length / sc.toNat) := by
  have h' : ((Sh70Neutral.fits sc 32 && (Sh70Neutral.allFit ns 32 && ((if (Sh70.isTableSize (sc.toNat) (((Sh70Neutral.toNats ns).length / sc.toNat))) = true then ns.length == (sc.toNat * ((Sh70Neutral.toNats ns).length / sc.toNat)) else ((ns.isEmpty) || (ns.length == (sc.toNat * ((Sh70Neutral.toNats ns).length / sc.toNat)))))))) && decide ((Sh70Neutral.f [[1, sc], ns]).length < 1000000)) = true := h
  rw [Bool.and_eq_true, Bool.and_eq_true, Bool.and_eq_true] at h'
  exact tab_asked_of (b := true) h0 h'.1.2.2
theorem sca_asked {sc : Int} {ns : List Int} (h0 : 0 ≤ sc) (h : PySh70.scatters_asked sc ns = true) : tabOk sc (ns.length : Int) = true → ns.length = sc.toNat * (ns.length / sc.toNat) := by
  have h' : ((Sh70Neutral.fits sc 32 && (Sh70Neutral.allFit ns 32 && ((if (Sh70.isTableSize (sc.toNat) (((Sh70Neutral.toNats ns).length / sc.toNat))) = true then ns.length == (sc.toNat * ((Sh70Neutral.toNats ns).length / sc.toNat)) else ((ns.isEmpty) || (ns.length == (sc.toNat * ((Sh70Neutral.toNats ns).length / sc.toNat)))))))) && decide ((Sh70Neutral.f [[2, sc], ns]).length < 1000000)) = true := h
  rw [Bool.and_eq_true, Bool.and_eq_true, Bool.and_eq_true] at h'
  exact tab_asked_of (b := true) h0 h'.1.2.2
theorem var_asked {sc fa : Int} {ns : List Int} (h0 : 0 ≤ sc) (hf : 0 ≤ fa) (h : PySh70.variable_stars_asked sc fa ns = true) : (tabOk sc (ns.length : Int) && decide (fa ≤ 65535)) = true → ns.length = sc.toNat * (ns.length / sc.toNat) := fun ht => by
  have h' : ((Sh70Neutral.fits sc 32 && (Sh70Neutral.fits fa 32 && (Sh70Neutral.allFit ns 32 && ((if (Sh70.isTableSize (sc.toNat) (((Sh70Neutral.toNats ns).length / sc.toNat)) && decide (fa.toNat ≤ 65535)) = true then ns.length == (sc.toNat * ((Sh70Neutral.toNats ns).length / sc.toNat)) else ((ns.isEmpty) || (ns.length == (sc.toNat * ((Sh70Neutral.toNats ns).length / sc.toNat))))))))) && decide ((Sh70Neutral.f [[4, sc, fa], ns]).length < 1000000)) = true := h
  rw [Bool.and_eq_true, Bool.and_eq_true, Bool.and_eq_true, Bool.and_eq_true] at h'
  have h2 := h'.1.2.2.2
  rw [table_of h0, show decide (fa.toNat ≤ 65535) = decide (fa ≤ 65535) from decide_eq_decide.mpr (by omega), if_pos ht] at h2
  rw [Bool.and_eq_true] at ht
  exact len_asked h0 ht.1 h2
/-- .. with weights -/
theorem dif_asked {sc star : Int} {ws ns : List Int} (h0 : 0 ≤ sc) (h : PySh70.differential_magnitudes_asked sc star ws ns = true) (ht : tabOk sc (ns.length : Int) = true) : ws.length = sc.toNat ∧ ns.length = sc.toNat * (ns.length / sc.toNat) := by
  have h' : ((Sh70Neutral.fits sc 32 && (Sh70Neutral.fits star 32 && (Sh70Neutral.allFit ws 32 && (Sh70Neutral.allFit ns 32 && ((if (Sh70.isTableSize (sc.toNat) (((Sh70Neutral.toNats ns).length / sc.toNat))) = true then ws.length == (sc.toNat) && ns.length == (sc.toNat * ((Sh70Neutral.toNats ns).length / sc.toNat)) else ((ws.isEmpty && ns.isEmpty) || (ws.length == (sc.toNat) && ns.length == (sc.toNat * ((Sh70Neutral.toNats ns).length / sc.toNat)))))))))) && decide ((Sh70Neutral.f [[3, sc, star], ws, ns]).length < 1000000)) = true := h
  rw [Bool.and_eq_true, Bool.and_eq_true, Bool.and_eq_true, Bool.and_eq_true, Bool.and_eq_true] at h'
  have h2 := h'.1.2.2.2.2
  rw [table_of h0, if_pos ht, Bool.and_eq_true] at h2
  exact ⟨eq_of_beq h2.1, len_asked h0 ht h2.2⟩
end LC
namespace LC
/-! ### folding -/
/-- the phases of the times -/
def phs (period : Nat) (times : List Nat) : List Nat := times.map (Sh70.phase period)
/-- the places of the times, by phase, equal phases in their order -/
def plc (period : Nat) (times : List Nat) : List Nat := (List.range times.length).mergeSort fun a b => decide (Sh70.natAt (phs period times) a ≤ Sh70.natAt (phs period times) b)
theorem natAt_get {l : List Nat} {i : Nat} (h : i < l.length) : l[i]? = some (Sh70.natAt l i) := by
  rw [List.getElem?_eq_getElem h]
  unfold Sh70.natAt
  rw [List.getD_eq_getElem?_getD, List.getElem?_eq_getElem h]
  rfl
theorem zip_by {α β : Type} (d : α) (e : β) : ∀ (l : List α) (r : List β), l.length = r.length → l.zip r = (List.range l.length).map fun i => (l.getD i d, r.getD i e)
  | [], [], _ => rfl
  | [], _ :: _, h => by simp at h
  | _ :: _, [], h => by simp at h
  | x :: l, y :: r, h => by
    have ih := zip_by d e l r (by simpa using h)
    rw [List.zip_cons_cons, ih, List.length_cons, List.range_succ_eq_map, List.map_cons, List.map_map]
    rfl
theorem fold_is {period : Nat} {times : List Nat} {ms : List Int} (hl : times.length = ms.length) :
    Sh70.fold period times ms = (plc period times).map fun p => (Sh70.natAt (phs period times) p, Sh70.intAt ms p) := by
  have e : (times.zip ms).map (fun entry => (Sh70.phase period entry.1, entry.2)) = (List.range times.length).map fun p => (Sh70.natAt (phs period times) p, Sh70.intAt ms p) := by
    rw [zip_by 0 0 times ms hl, List.map_map]
    apply List.map_congr_left
    intro i hi
    have hi' := List.mem_range.mp hi
    show (Sh70.phase period (times.getD i 0), ms.getD i 0) = (Sh70.natAt (phs period times) i, Sh70.intAt ms i)
    have e2 : Sh70.natAt (phs period times) i = Sh70.phase period (times.getD i 0) := by
      unfold Sh70.natAt phs
      rw [List.getD_eq_getElem?_getD, List.getD_eq_getElem?_getD, List.getElem?_map, List.getElem?_eq_getElem hi']
      rfl
    rw [e2]
    rfl
  show ((times.zip ms).map fun entry => (Sh70.phase period entry.1, entry.2)).mergeSort (fun a b => decide (a.1 ≤ b.1)) = _
  rw [e]
  unfold plc
  rw [List.map_mergeSort (s := fun a b => decide (a.1 ≤ b.1))]
  intro a _ b _
  rfl
theorem plc_perm (period : Nat) (times : List Nat) : (plc period times).Perm (List.range times.length) := List.mergeSort_perm _ _
theorem plc_len (period : Nat) (times : List Nat) : (plc period times).length = times.length := by
  rw [(plc_perm period times).length_eq, List.length_range]
theorem plc_lt {period : Nat} {times : List Nat} {p : Nat} (h : p ∈ plc period times) : p < times.length := List.mem_range.mp ((plc_perm period times).mem_iff.mp h)
theorem phase_lt {period time : Nat} (h : 0 < period) : Sh70.phase period time < 65536 := by
  unfold Sh70.phase
  rw [Nat.div_lt_iff_lt_mul h]
  have := Nat.mod_lt time h
  omega
theorem fold_len {period : Nat} {times : List Nat} {ms : List Int} (hl : times.length = ms.length) : (Sh70.fold period times ms).length = times.length := by
  rw [fold_is hl, List.length_map, plc_len]
theorem fold_phase {period : Nat} {times : List Nat} {ms : List Int} (h : 0 < period) (hl : times.length = ms.length) : ∀ e ∈ Sh70.fold period times ms, e.1 < 65536 := fun e he => by
  rw [fold_is hl] at he
  obtain ⟨p, hp, rfl⟩ := List.mem_map.mp he
  have hp' := plc_lt hp
  show Sh70.natAt (phs period times) p < 65536
  have g := natAt_get (l := phs period times) (i := p) (by unfold phs; rw [List.length_map]; exact hp')
  obtain ⟨t, _, e2⟩ := map_get (show (times.map (Sh70.phase period))[p]? = some _ from g)
  rw [e2]
  exact phase_lt h
theorem fold_mag {period : Nat} {times : List Nat} {ms : List Int} (hl : times.length = ms.length) (hb : ∀ x ∈ ms, -99999 ≤ x ∧ x ≤ 99999) : ∀ e ∈ Sh70.fold period times ms, -99999 ≤ e.2 ∧ e.2 ≤ 99999 := fun e he => by
  rw [fold_is hl] at he
  obtain ⟨p, hp, rfl⟩ := List.mem_map.mp he
  have hp' := plc_lt hp
  exact hb _ (intAt_mem (by rw [← hl]; exact hp'))
/-! ### what is due of fold -/
theorem nats_of {ns : List Int} (hn : ∀ n ∈ ns, 0 ≤ n) : (Sh70Neutral.toNats ns).map (fun k : Nat => (k : Int)) = ns := by
  unfold Sh70Neutral.toNats
  rw [List.map_map]
  have e : ns.map ((fun k : Nat => (k : Int)) ∘ fun value : Int => value.toNat) = ns.map id := List.map_congr_left fun n h => Int.toNat_of_nonneg (hn n h)
  rw [e, List.map_id]
def foldOk (period : Int) (len : Int) : Bool := decide (1 ≤ period) && decide (period ≤ 16777216) && decide (len ≤ 1024)
theorem fold_args {period : Int} {ts : List Int} (h0 : 0 ≤ period) : (Sh70.isAtMost1024 (Sh70Neutral.toNats ts).length && Sh70.isPeriod period.toNat) = foldOk period (ts.length : Int) := by
  rw [toNats_len]
  unfold Sh70.isAtMost1024 Sh70.isPeriod Sh70.isBetween foldOk
  have e1 : decide (ts.length ≤ 1024) = decide ((ts.length : Int) ≤ 1024) := decide_eq_decide.mpr (by omega)
  have e2 : decide (1 ≤ period.toNat) = decide (1 ≤ period) := decide_eq_decide.mpr (by omega)
  have e3 : decide (period.toNat ≤ 16777216) = decide (period ≤ 16777216) := decide_eq_decide.mpr (by omega)
  rw [e1, e2, e3, Bool.and_comm]
section
variable {period : Int} {ts ns : List Int}
theorem fold_bad (h0 : 0 ≤ period) (h : foldOk period (ts.length : Int) = false) : PySh70.fold period ts ns = [-2] := by
  show (match (some (if (Sh70.isAtMost1024 (Sh70Neutral.toNats ts).length && Sh70.isPeriod period.toNat) = true then Sh70.Call.fold period.toNat (Sh70Neutral.toNats ts) (Sh70.signedWords (Sh70Neutral.toNats ns)) else .invalid) : Option Sh70.Call) with | none => [] | some parsed => Sh70Neutral.flatten (Sh70.answer parsed)) = _
  rw [fold_args h0, h]
  rfl
theorem foldc_mag (h0 : 0 ≤ period) (hn : ∀ n ∈ ns, 0 ≤ n) (h : foldOk period (ts.length : Int) = true) (hm : Sh70.areValidMagnitudes (ns.map sg) = false) : PySh70.fold period ts ns = [-3] := by
  show (match (some (if (Sh70.isAtMost1024 (Sh70Neutral.toNats ts).length && Sh70.isPeriod period.toNat) = true then Sh70.Call.fold period.toNat (Sh70Neutral.toNats ts) (Sh70.signedWords (Sh70Neutral.toNats ns)) else .invalid) : Option Sh70.Call) with | none => [] | some parsed => Sh70Neutral.flatten (Sh70.answer parsed)) = _
  rw [fold_args h0, h, if_pos rfl, sg_words hn]
  show Sh70Neutral.flatten (if Sh70.areValidMagnitudes (ns.map sg) = false then Sh70.errorAnswer (-3) else _) = _
  rw [if_pos hm]
  rfl
theorem fold_ok (h0 : 0 ≤ period) (hn : ∀ n ∈ ns, 0 ≤ n) (h : foldOk period (ts.length : Int) = true) (hm : Sh70.areValidMagnitudes (ns.map sg) = true) :
    PySh70.fold period ts ns = [0, ((Sh70.fold period.toNat (Sh70Neutral.toNats ts) (ns.map sg)).length : Int)] ++ (Sh70.fold period.toNat (Sh70Neutral.toNats ts) (ns.map sg)).map (fun e => (e.1 : Int)) ++ [((Sh70.fold period.toNat (Sh70Neutral.toNats ts) (ns.map sg)).length : Int)] ++ (Sh70.fold period.toNat (Sh70Neutral.toNats ts) (ns.map sg)).map fun e => e.2 % 4294967296 := by
  show (match (some (if (Sh70.isAtMost1024 (Sh70Neutral.toNats ts).length && Sh70.isPeriod period.toNat) = true then Sh70.Call.fold period.toNat (Sh70Neutral.toNats ts) (Sh70.signedWords (Sh70Neutral.toNats ns)) else .invalid) : Option Sh70.Call) with | none => [] | some parsed => Sh70Neutral.flatten (Sh70.answer parsed)) = _
  rw [fold_args h0, h, if_pos rfl, sg_words hn]
  show Sh70Neutral.flatten (if Sh70.areValidMagnitudes (ns.map sg) = false then Sh70.errorAnswer (-3) else _) = _
  rw [if_neg (by rw [hm]; decide)]
  generalize Sh70.fold period.toNat (Sh70Neutral.toNats ts) (ns.map sg) = s
  show (0 : Int) :: ([s.map (fun entry => entry.1), s.map fun entry => Sh70.word32 entry.2].flatMap fun output : List Nat => ((output.length : Nat) : Int) :: Sh70Neutral.toInts output) = _
  have e : s.map (fun entry => Sh70.word32 entry.2) = (s.map fun entry => entry.2).map Sh70.word32 := by
    rw [List.map_map]
    rfl
  have e2 : Sh70Neutral.toInts (s.map fun entry => entry.1) = s.map fun e => (e.1 : Int) := by
    unfold Sh70Neutral.toInts
    rw [List.map_map]
    rfl
  have e3 : (s.map fun entry => entry.2).map (fun z => z % 4294967296) = s.map fun e => e.2 % 4294967296 := by
    rw [List.map_map]
    rfl
  rw [e]
  simp only [List.flatMap_cons, List.flatMap_nil, List.append_nil, w32, e2, e3, List.length_map, List.cons_append, List.nil_append, List.append_assoc]
end
/-! ### string length -/
def mgs (s : List (Nat × Int)) : List Int := s.map fun e => e.2
def pair_abs (a b : Int) : Int := ((a - b).natAbs : Int)
/-- from prev on, link by link -/
def chain : Int → List Int → Int
  | _, [] => 0
  | p, x :: r => pair_abs x p + chain x r
/-- the first i links, the one ahead of the first from the last -/
def links (l : List Int) (i : Nat) : Int := ((List.range i).map fun k => pair_abs (Sh70.intAt l k) (Sh70.intAt l (if k = 0 then l.length - 1 else k - 1))).sum
theorem links_more (l : List Int) (i : Nat) : links l (i + 1) = links l i + pair_abs (Sh70.intAt l i) (Sh70.intAt l (if i = 0 then l.length - 1 else i - 1)) := by
  unfold links
  rw [List.range_succ, List.map_append, List.sum_append, List.map_singleton, List.sum_singleton]
theorem chain_range : ∀ (l : List Int) (p : Int), chain p l = ((List.range l.length).map fun k => pair_abs (Sh70.intAt l k) (if k = 0 then p else Sh70.intAt l (k - 1))).sum
  | [], _ => rfl
  | x :: r, p => by
    show pair_abs x p + chain x r = _
    rw [chain_range r x, List.length_cons, List.range_succ_eq_map, List.map_cons, List.sum_cons, List.map_map]
    congr 1
    congr 1
    apply List.map_congr_left
    intro k _
    show pair_abs (Sh70.intAt r k) (if k = 0 then x else Sh70.intAt r (k - 1)) = pair_abs (Sh70.intAt (x :: r) (k + 1)) (if k + 1 = 0 then p else Sh70.intAt (x :: r) (k + 1 - 1))
    rw [if_neg (Nat.succ_ne_zero k)]
    cases k with
    | zero => rfl
    | succ k =>
      rw [if_neg (Nat.succ_ne_zero k)]
      rfl
theorem links_chain (l : List Int) : links l l.length = chain (Sh70.intAt l (l.length - 1)) l := by
  rw [chain_range]
  unfold links
  congr 1
  apply List.map_congr_left
  intro k _
  by_cases c : k = 0
  · rw [if_pos c, if_pos c]
  · rw [if_neg c, if_neg c]
theorem abs_comm (a b : Int) : ((Sh70.absDiff a b : Nat) : Int) = pair_abs b a := by
  unfold Sh70.absDiff pair_abs
  omega
/-- the specification's pairs: from the first on, then back -/
theorem spec_chain (z : Nat × Int) : ∀ (r : List (Nat × Int)) (a : Nat × Int), (((((a :: r).zip (r ++ [z])).map fun pair => Sh70.absDiff pair.1.2 pair.2.2).sum : Nat) : Int) = chain a.2 (mgs r) + pair_abs z.2 (Sh70.intAt (mgs (a :: r)) r.length)
  | [], a => by
    show ((Sh70.absDiff a.2 z.2 + 0 : Nat) : Int) = 0 + pair_abs z.2 a.2
    rw [Nat.add_zero, abs_comm]
    omega
  | b :: r, a => by
    have ih := spec_chain z r b
    show (((Sh70.absDiff a.2 b.2 :: (((b :: r).zip (r ++ [z])).map fun pair => Sh70.absDiff pair.1.2 pair.2.2)).sum : Nat) : Int) = (pair_abs b.2 a.2 + chain b.2 (mgs r)) + pair_abs z.2 (Sh70.intAt (mgs (b :: r)) r.length)
    rw [List.sum_cons, Int.natCast_add, ih, abs_comm]
    omega
theorem length_is (s : List (Nat × Int)) : ((Sh70.stringLength s : Nat) : Int) = links (mgs s) s.length := by
  cases s with
  | nil => rfl
  | cons a r =>
    have e : (a :: r).length = (mgs (a :: r)).length := by
      unfold mgs
      rw [List.length_map]
    rw [e, links_chain]
    show (((((a :: r).zip (r ++ [a])).map fun pair => Sh70.absDiff pair.1.2 pair.2.2).sum : Nat) : Int) = pair_abs a.2 _ + chain a.2 (mgs r)
    rw [spec_chain a r a, ← e, List.length_cons, Nat.add_sub_cancel]
    omega
theorem pair_abs_bound {a b : Int} (ha : -99999 ≤ a ∧ a ≤ 99999) (hb : -99999 ≤ b ∧ b ≤ 99999) : 0 ≤ pair_abs a b ∧ pair_abs a b ≤ 199998 := by
  unfold pair_abs
  omega
/-- a request that is asked and that the counts let has as many magnitudes as times -/
theorem fold_asked {period : Int} {ts ns : List Int} (h0 : 0 ≤ period) (h : PySh70.fold_asked period ts ns = true) (hl : foldOk period (ts.length : Int) = true) : ts.length = ns.length := by
  have h' : ((Sh70Neutral.fits period 32 && (Sh70Neutral.allFit ts 32 && (Sh70Neutral.allFit ns 32 && (if (Sh70.isAtMost1024 (Sh70Neutral.toNats ts).length && Sh70.isPeriod period.toNat) = true then ts.length == (Sh70Neutral.toNats ts).length && ns.length == (Sh70Neutral.toNats ts).length
    else ((ts.isEmpty && ns.isEmpty) || (ts.length == (Sh70Neutral.toNats ts).length && ns.length == (Sh70Neutral.toNats ts).length)))))) && decide ((Sh70Neutral.f [[5, period], ts, ns]).length < 1000000)) = true := h
  rw [Bool.and_eq_true, Bool.and_eq_true, Bool.and_eq_true, Bool.and_eq_true] at h'
  have h2 := h'.1.2.2.2
  rw [fold_args h0, if_pos hl, Bool.and_eq_true, toNats_len] at h2
  exact (eq_of_beq h2.2).symm
end LC
namespace LC
/-! ### bins -/
def binNo (bins : Nat) (e : Nat × Int) : Nat := e.1 * bins / 65536
/-- the magnitudes of a bin -/
def binAt (bins : Nat) (s : List (Nat × Int)) (b : Nat) : List Int := (s.filter fun e => decide (e.1 * bins / 65536 = b)).map fun e => e.2
theorem binNo_lt {bins : Nat} {e : Nat × Int} (h : e.1 < 65536) (hb : 0 < bins) : binNo bins e < bins := by
  unfold binNo
  rw [Nat.div_lt_iff_lt_mul (by decide), Nat.mul_comm bins 65536]
  exact Nat.mul_lt_mul_of_pos_right h hb
theorem binAt_more {bins : Nat} {s : List (Nat × Int)} {i : Nat} {e : Nat × Int} (h : s[i]? = some e) (b : Nat) : binAt bins (s.take (i + 1)) b = if binNo bins e = b then binAt bins (s.take i) b ++ [e.2] else binAt bins (s.take i) b := by
  unfold binAt binNo
  rw [take_more h, List.filter_append, List.map_append, List.filter_cons]
  by_cases c : e.1 * bins / 65536 = b
  · rw [if_pos (decide_eq_true c), if_pos c]
    rfl
  · rw [if_neg (by rw [decide_eq_false c]; decide), if_neg c]
    show _ ++ [] = _
    rw [List.append_nil]
theorem binAt_len (bins : Nat) (s : List (Nat × Int)) (b : Nat) : (binAt bins s b).length ≤ s.length := by
  unfold binAt
  rw [List.length_map]
  exact List.length_filter_le _ _
theorem binAt_mem {bins : Nat} {s : List (Nat × Int)} {b : Nat} {x : Int} (h : x ∈ binAt bins s b) : ∃ e, e ∈ s ∧ x = e.2 := by
  unfold binAt at h
  obtain ⟨e, he, rfl⟩ := List.mem_map.mp h
  exact ⟨e, (List.mem_filter.mp he).1, rfl⟩
/-- the bins as lists -/
def binsI (bins : Nat) (s : List (Nat × Int)) : List (List Int) := (List.range bins).map (binAt bins s)
theorem binsI_get {bins : Nat} {s : List (Nat × Int)} {b : Nat} (h : b < bins) : (binsI bins s)[b]? = some (binAt bins s b) := by
  unfold binsI
  rw [List.getElem?_map, List.getElem?_range h]
  rfl
theorem binsI_len (bins : Nat) (s : List (Nat × Int)) : (binsI bins s).length = bins := by
  unfold binsI
  rw [List.length_map, List.length_range]
/-! ### binned scatter -/
/-- what a bin adds -/
def binVal (l : List Int) : Int := spr l / (l.length : Int)
theorem sum_given (p : Nat → Bool) (g : Nat → Int) : ∀ l : List Nat, ((l.filter p).map g).sum = (l.map fun i => if p i = true then g i else 0).sum
  | [] => rfl
  | x :: r => by
    have ih := sum_given p g r
    rw [List.filter_cons, List.map_cons, List.sum_cons]
    by_cases c : p x = true
    · rw [if_pos c, if_pos c, List.map_cons, List.sum_cons, ih]
    · rw [if_neg c, if_neg c, ih, Int.zero_add]
theorem cast_sum (f : Nat → Nat) : ∀ l : List Nat, (((l.map f).sum : Nat) : Int) = (l.map fun i => ((f i : Nat) : Int)).sum
  | [] => rfl
  | x :: r => by
    rw [List.map_cons, List.sum_cons, List.map_cons, List.sum_cons, Int.natCast_add, cast_sum f r]
def notNil (l : List Int) : Bool := decide (l ≠ [])
theorem binned_is (bins : Nat) (s : List (Nat × Int)) : ((Sh70.binnedScatter bins s : Nat) : Int) = (((List.range bins).filter fun b => notNil (binAt bins s b)).map fun b => binVal (binAt bins s b)).sum := by
  rw [sum_given]
  show ((((List.range bins).map fun bin => if (binAt bins s bin).length = 0 then 0 else (spr (binAt bins s bin) / (((binAt bins s bin).length : Nat) : Int)).toNat).sum : Nat) : Int) = _
  rw [cast_sum]
  congr 1
  apply List.map_congr_left
  intro b _
  by_cases c : binAt bins s b = []
  · rw [c]
    rfl
  · have c2 : ¬ (binAt bins s b).length = 0 := fun z => c (List.eq_nil_of_length_eq_zero z)
    rw [if_neg c2, if_pos (show notNil (binAt bins s b) = true from decide_eq_true c)]
    exact Int.toNat_of_nonneg (Int.ediv_nonneg (spr_nonneg _) (by omega))
theorem binVal_bound {l : List Int} (h : ∀ x ∈ l, -99999 ≤ x ∧ x ≤ 99999) (hl : l.length ≤ 1024) : 0 ≤ binVal l ∧ binVal l ≤ 10239795201024 := by
  unfold binVal
  have s := spr_le h
  have p := spr_nonneg l
  rcases Nat.eq_zero_or_pos l.length with z | z
  · rw [z]
    simp
  · refine ⟨Int.ediv_nonneg p (by omega), ?_⟩
    refine Int.ediv_le_of_le_mul (by omega) ?_
    have m : (99999 * 99999 : Int) * ((l.length : Int) * (l.length : Int)) = (99999 * 99999 * (l.length : Int)) * (l.length : Int) := (Int.mul_assoc _ _ _).symm
    rw [m] at s
    refine Int.le_trans s (Int.mul_le_mul_of_nonneg_right (by omega) (by omega))
/-! ### search -/
def bestTo (values : List Nat) (i : Nat) : Nat := (List.range i).foldl (fun (best : Nat) (i : Nat) => if Sh70.natAt values i < Sh70.natAt values best then i else best) 0
theorem best_more (values : List Nat) (i : Nat) : bestTo values (i + 1) = if Sh70.natAt values i < Sh70.natAt values (bestTo values i) then i else bestTo values i := by
  unfold bestTo
  rw [List.range_succ, List.foldl_append]
  rfl
theorem best_lt (values : List Nat) : ∀ i, bestTo values i = 0 ∨ bestTo values i < i
  | 0 => .inl rfl
  | i + 1 => by
    rw [best_more]
    split
    · exact .inr (Nat.lt_succ_self i)
    · rcases best_lt values i with h | h
      · exact .inl h
      · exact .inr (Nat.lt_succ_of_lt h)
theorem best_all (values : List Nat) : bestTo values values.length = Sh70.smallestIndex values := rfl
/-- the value of a trial period -/
def valOf (crit bins : Nat) (s : List (Nat × Int)) : Nat := if crit = 0 then Sh70.stringLength s else Sh70.binnedScatter bins s
theorem search_get {crit bins first step count : Nat} {ts : List Nat} {ms : List Int} {i : Nat} (h : i < count) : (Sh70.searchPeriods crit bins first step count ts ms)[i]? = some (valOf crit bins (Sh70.fold (first + i * step) ts ms)) := by
  unfold Sh70.searchPeriods Sh70.trialPeriods
  rw [List.getElem?_map, List.getElem?_map, List.getElem?_range h]
  rfl
theorem search_len {crit bins first step count : Nat} {ts : List Nat} {ms : List Int} : (Sh70.searchPeriods crit bins first step count ts ms).length = count := by
  unfold Sh70.searchPeriods Sh70.trialPeriods
  rw [List.length_map, List.length_map, List.length_range]
theorem range_sum_bound {f : Nat → Int} {b : Int} : ∀ {n : Nat}, (∀ i, i < n → 0 ≤ f i ∧ f i ≤ b) → 0 ≤ ((List.range n).map f).sum ∧ ((List.range n).map f).sum ≤ b * (n : Int)
  | 0, _ => by simp
  | n + 1, h => by
    have ih := range_sum_bound (n := n) fun i hi => h i (Nat.lt_succ_of_lt hi)
    have h0 := h n (Nat.lt_succ_self n)
    rw [List.range_succ, List.map_append, List.sum_append, List.map_singleton, List.sum_singleton]
    have e : b * ((n + 1 : Nat) : Int) = b * (n : Int) + b := by
      rw [Int.natCast_add, Int.mul_add]
      simp
    rw [e]
    omega
theorem string_bound {s : List (Nat × Int)} (h : ∀ e ∈ s, -99999 ≤ e.2 ∧ e.2 ≤ 99999) : ((Sh70.stringLength s : Nat) : Int) ≤ 199998 * (s.length : Int) := by
  rw [length_is]
  have g : ∀ k, -99999 ≤ Sh70.intAt (mgs s) k ∧ Sh70.intAt (mgs s) k ≤ 99999 := fun k => by
    by_cases c : k < (mgs s).length
    · obtain ⟨e, he, e2⟩ := List.mem_map.mp (intAt_mem c)
      have e3 : Sh70.intAt (mgs s) k = e.2 := e2.symm
      rw [e3]
      exact h e he
    · have z : Sh70.intAt (mgs s) k = 0 := by
        unfold Sh70.intAt
        rw [List.getD_eq_getElem?_getD, List.getElem?_eq_none (by omega)]
        rfl
      rw [z]
      decide
  exact (range_sum_bound (n := s.length) fun k _ => pair_abs_bound (g k) (g _)).2
theorem given_as_range (p : Nat → Bool) (g : Nat → Int) (n : Nat) : (((List.range n).filter p).map g).sum = ((List.range n).map fun i => if p i = true then g i else 0).sum := sum_given p g _
theorem binned_bound {bins : Nat} {s : List (Nat × Int)} (h : ∀ e ∈ s, -99999 ≤ e.2 ∧ e.2 ≤ 99999) (hl : s.length ≤ 1024) : ((Sh70.binnedScatter bins s : Nat) : Int) ≤ 10239795201024 * (bins : Int) := by
  rw [binned_is, sum_given]
  refine (range_sum_bound (n := bins) fun b _ => ?_).2
  split
  · refine binVal_bound (fun x hx => ?_) (Nat.le_trans (binAt_len bins s b) hl)
    obtain ⟨e, he, rfl⟩ := binAt_mem hx
    exact h e he
  · decide
theorem val_bound {crit bins : Nat} {s : List (Nat × Int)} (h : ∀ e ∈ s, -99999 ≤ e.2 ∧ e.2 ≤ 99999) (hl : s.length ≤ 1024) (hb : bins ≤ 64) : valOf crit bins s < 18446744073709551616 := by
  unfold valOf
  have a := string_bound h
  have b := binned_bound (bins := bins) h hl
  split <;> omega
/-! ### what is due of search_periods -/
def searchOk (crit bins first step trials len : Int) : Bool := decide (crit ≤ 1) && (decide (1 ≤ bins) && decide (bins ≤ 64)) && (decide (1 ≤ trials) && decide (trials ≤ 64)) && (decide (1 ≤ first) && decide (first ≤ 16777216)) && decide (step ≤ 65536) && decide (len ≤ 1024)
section
variable {crit bins first step trials : Int} {ts ns : List Int}
theorem search_args (h0 : 0 ≤ crit) (h1 : 0 ≤ bins) (h2 : 0 ≤ first) (h3 : 0 ≤ step) (h4 : 0 ≤ trials) :
    (Sh70.isAtMost1024 (Sh70Neutral.toNats ts).length && (decide (crit.toNat ≤ 1) && (Sh70.isBetween bins.toNat 1 64 && (Sh70.isPeriod first.toNat && (decide (step.toNat ≤ 65536) && Sh70.isBetween trials.toNat 1 64))))) = searchOk crit bins first step trials (ts.length : Int) := by
  rw [toNats_len, Bool.eq_iff_iff]
  unfold Sh70.isAtMost1024 Sh70.isPeriod Sh70.isBetween searchOk
  simp only [Bool.and_eq_true, decide_eq_true_eq]
  omega
theorem search_bad (h0 : 0 ≤ crit) (h1 : 0 ≤ bins) (h2 : 0 ≤ first) (h3 : 0 ≤ step) (h4 : 0 ≤ trials) (h : searchOk crit bins first step trials (ts.length : Int) = false) : PySh70.search_periods crit bins first step trials ts ns = [-2] := by
  show (match (some (if (Sh70.isAtMost1024 (Sh70Neutral.toNats ts).length && (decide (crit.toNat ≤ 1) && (Sh70.isBetween bins.toNat 1 64 && (Sh70.isPeriod first.toNat && (decide (step.toNat ≤ 65536) && Sh70.isBetween trials.toNat 1 64))))) = true then Sh70.Call.searchPeriods crit.toNat bins.toNat first.toNat step.toNat trials.toNat (Sh70Neutral.toNats ts) (Sh70.signedWords (Sh70Neutral.toNats ns)) else .invalid) : Option Sh70.Call) with | none => [] | some parsed => Sh70Neutral.flatten (Sh70.answer parsed)) = _
  rw [search_args h0 h1 h2 h3 h4, h]
  rfl
theorem search_mag (h0 : 0 ≤ crit) (h1 : 0 ≤ bins) (h2 : 0 ≤ first) (h3 : 0 ≤ step) (h4 : 0 ≤ trials) (hn : ∀ n ∈ ns, 0 ≤ n) (h : searchOk crit bins first step trials (ts.length : Int) = true) (hm : Sh70.areValidMagnitudes (ns.map sg) = false) : PySh70.search_periods crit bins first step trials ts ns = [-3] := by
  show (match (some (if (Sh70.isAtMost1024 (Sh70Neutral.toNats ts).length && (decide (crit.toNat ≤ 1) && (Sh70.isBetween bins.toNat 1 64 && (Sh70.isPeriod first.toNat && (decide (step.toNat ≤ 65536) && Sh70.isBetween trials.toNat 1 64))))) = true then Sh70.Call.searchPeriods crit.toNat bins.toNat first.toNat step.toNat trials.toNat (Sh70Neutral.toNats ts) (Sh70.signedWords (Sh70Neutral.toNats ns)) else .invalid) : Option Sh70.Call) with | none => [] | some parsed => Sh70Neutral.flatten (Sh70.answer parsed)) = _
  rw [search_args h0 h1 h2 h3 h4, h, if_pos rfl, sg_words hn]
  show Sh70Neutral.flatten (if Sh70.areValidMagnitudes (ns.map sg) = false then Sh70.errorAnswer (-3) else _) = _
  rw [if_pos hm]
  rfl
theorem search_ok (h0 : 0 ≤ crit) (h1 : 0 ≤ bins) (h2 : 0 ≤ first) (h3 : 0 ≤ step) (h4 : 0 ≤ trials) (hn : ∀ n ∈ ns, 0 ≤ n) (h : searchOk crit bins first step trials (ts.length : Int) = true) (hm : Sh70.areValidMagnitudes (ns.map sg) = true) :
    PySh70.search_periods crit bins first step trials ts ns = [((Sh70.smallestIndex (Sh70.searchPeriods crit.toNat bins.toNat first.toNat step.toNat trials.toNat (Sh70Neutral.toNats ts) (ns.map sg)) : Nat) : Int)] ++ (Sh70.searchPeriods crit.toNat bins.toNat first.toNat step.toNat trials.toNat (Sh70Neutral.toNats ts) (ns.map sg)).map fun v : Nat => (v : Int) := by
  show (match (some (if (Sh70.isAtMost1024 (Sh70Neutral.toNats ts).length && (decide (crit.toNat ≤ 1) && (Sh70.isBetween bins.toNat 1 64 && (Sh70.isPeriod first.toNat && (decide (step.toNat ≤ 65536) && Sh70.isBetween trials.toNat 1 64))))) = true then Sh70.Call.searchPeriods crit.toNat bins.toNat first.toNat step.toNat trials.toNat (Sh70Neutral.toNats ts) (Sh70.signedWords (Sh70Neutral.toNats ns)) else .invalid) : Option Sh70.Call) with | none => [] | some parsed => Sh70Neutral.flatten (Sh70.answer parsed)) = _
  rw [search_args h0 h1 h2 h3 h4, h, if_pos rfl, sg_words hn]
  show Sh70Neutral.flatten (if Sh70.areValidMagnitudes (ns.map sg) = false then Sh70.errorAnswer (-3) else _) = _
  rw [if_neg (by rw [hm]; decide)]
  rfl
end
theorem search_asked {crit bins first step trials : Int} {ts ns : List Int} (h0 : 0 ≤ crit) (h1 : 0 ≤ bins) (h2 : 0 ≤ first) (h3 : 0 ≤ step) (h4 : 0 ≤ trials) (h : PySh70.search_periods_asked crit bins first step trials ts ns = true) (hl : searchOk crit bins first step trials (ts.length : Int) = true) : ts.length = ns.length := by
  have h' : ((Sh70Neutral.fits crit 32 && (Sh70Neutral.fits bins 32 && (Sh70Neutral.fits first 32 && (Sh70Neutral.fits step 32 && (Sh70Neutral.fits trials 32 && (Sh70Neutral.allFit ts 32 && (Sh70Neutral.allFit ns 32 &&
    (if (Sh70.isAtMost1024 (Sh70Neutral.toNats ts).length && (decide (crit.toNat ≤ 1) && (Sh70.isBetween bins.toNat 1 64 && (Sh70.isPeriod first.toNat && (decide (step.toNat ≤ 65536) && Sh70.isBetween trials.toNat 1 64))))) = true then ts.length == (Sh70Neutral.toNats ts).length && ns.length == (Sh70Neutral.toNats ts).length
    else ((ts.isEmpty && ns.isEmpty) || (ts.length == (Sh70Neutral.toNats ts).length && ns.length == (Sh70Neutral.toNats ts).length)))))))))) && decide ((Sh70Neutral.f [[6, crit, bins, first, step, trials], ts, ns]).length < 1000000)) = true := h
  rw [Bool.and_eq_true, Bool.and_eq_true, Bool.and_eq_true, Bool.and_eq_true, Bool.and_eq_true, Bool.and_eq_true, Bool.and_eq_true, Bool.and_eq_true] at h'
  have h5 := h'.1.2.2.2.2.2.2.2
  rw [search_args h0 h1 h2 h3 h4, if_pos hl, Bool.and_eq_true, toNats_len] at h5
  exact (eq_of_beq h5.2).symm
theorem search_is {crit bins first step count : Nat} {ts : List Nat} {ms : List Int} : Sh70.searchPeriods crit bins first step count ts ms = (List.range count).map fun i => valOf crit bins (Sh70.fold (first + i * step) ts ms) := by
  unfold Sh70.searchPeriods Sh70.trialPeriods
  rw [List.map_map]
  rfl
end LC
namespace LC
/-! ### asymmetry -/
/-- the place of the partner, from place j on -/
def partAt (d tol : Int) : List Int → Nat → Option Nat
  | [], _ => none
  | y :: r, j => if (if y - d < 0 then -(y - d) else y - d) ≤ tol then some j else partAt d tol r (j + 1)
/-- what a measurement adds -/
def asymOf (ts ms : List Int) (mid tol : Int) (i : Nat) : Int :=
  if Sh70.intAt ts i < mid then (match partAt (2 * mid - Sh70.intAt ts i) tol ts 0 with
    | none => 0
    | some j => pair_abs (Sh70.intAt ms i) (Sh70.intAt ms j)) else 0
def asymTo (ts ms : List Int) (mid tol : Int) (i : Nat) : Int := ((List.range i).map (asymOf ts ms mid tol)).sum
theorem asym_more (ts ms : List Int) (mid tol : Int) (i : Nat) : asymTo ts ms mid tol (i + 1) = asymTo ts ms mid tol i + asymOf ts ms mid tol i := by
  unfold asymTo
  rw [List.range_succ, List.map_append, List.sum_append, List.map_singleton, List.sum_singleton]
theorem part_find (x mid : Int) (tol : Nat) (d : Int) (hd : d = 2 * mid - x) : ∀ (ts : List Nat) (ms : List Int) (j : Nat) (all : List Int), ts.length = ms.length → (∀ i, Sh70.intAt all (j + i) = Sh70.intAt ms i) →
    ((ts.zip ms).find? fun y => decide (((y.1 : Int) - mid - (mid - x)).natAbs ≤ tol)).map (fun y => y.2) = (partAt d (tol : Int) (ts.map fun k : Nat => (k : Int)) j).map (Sh70.intAt all)
  | [], [], _, _, _, _ => rfl
  | [], _ :: _, _, _, h, _ => by simp at h
  | _ :: _, [], _, _, h, _ => by simp at h
  | y :: ts, m :: ms, j, all, h, ha => by
    have ih := part_find x mid tol d hd ts ms (j + 1) all (by simpa using h) fun i => by
      have e := ha (i + 1)
      rw [show j + 1 + i = j + (i + 1) by omega, e]
      rfl
    rw [List.zip_cons_cons, List.find?_cons]
    show _ = Option.map (Sh70.intAt all) (if (if (y : Int) - d < 0 then -((y : Int) - d) else (y : Int) - d) ≤ (tol : Int) then some j else partAt d (tol : Int) (ts.map fun k : Nat => (k : Int)) (j + 1))
    have e0 : decide (((((y, m) : Nat × Int).1 : Int) - mid - (mid - x)).natAbs ≤ tol) = decide ((if (y : Int) - d < 0 then -((y : Int) - d) else (y : Int) - d) ≤ (tol : Int)) := decide_eq_decide.mpr (by
      show ((y : Int) - mid - (mid - x)).natAbs ≤ tol ↔ _
      split <;> omega)
    rw [e0]
    by_cases c : (if (y : Int) - d < 0 then -((y : Int) - d) else (y : Int) - d) ≤ (tol : Int)
    · rw [decide_eq_true c, if_pos c]
      have e := ha 0
      show some m = some (Sh70.intAt all j)
      rw [show j = j + 0 from rfl, e]
      rfl
    · rw [decide_eq_false c, if_neg c]
      exact ih
theorem asym_is {ts : List Nat} {ms : List Int} {mid : Int} {tol : Nat} (hl : ts.length = ms.length) : ((Sh70.asymmetry ts ms mid tol : Nat) : Int) = asymTo (ts.map fun k : Nat => (k : Int)) ms mid (tol : Int) ts.length := by
  unfold Sh70.asymmetry asymTo
  rw [zip_by 0 0 ts ms hl, List.map_map, cast_sum]
  congr 1
  apply List.map_congr_left
  intro i hi
  have hi' := List.mem_range.mp hi
  have et : Sh70.intAt (ts.map fun k : Nat => (k : Int)) i = ((ts.getD i 0 : Nat) : Int) := by
    unfold Sh70.intAt
    rw [List.getD_eq_getElem?_getD, List.getD_eq_getElem?_getD, List.getElem?_map, List.getElem?_eq_getElem hi']
    rfl
  rw [← zip_by 0 0 ts ms hl]
  have f := part_find ((ts.getD i 0 : Nat) : Int) mid tol (2 * mid - ((ts.getD i 0 : Nat) : Int)) rfl ts ms 0 ms hl fun k => by rw [Nat.zero_add]
  unfold asymOf
  rw [et]
  show (((if mid ≤ ((ts.getD i 0 : Nat) : Int) then 0 else match (ts.zip ms).find? fun y => decide (((y.1 : Int) - mid - (mid - ((ts.getD i 0 : Nat) : Int))).natAbs ≤ tol) with
    | none => 0
    | some y => Sh70.absDiff (ms.getD i 0) y.2) : Nat) : Int) = _
  by_cases c : mid ≤ ((ts.getD i 0 : Nat) : Int)
  · rw [if_pos c, if_neg (by omega)]
    rfl
  · rw [if_neg c, if_pos (by omega)]
    revert f
    generalize (ts.zip ms).find? (fun y => decide (((y.1 : Int) - mid - (mid - ((ts.getD i 0 : Nat) : Int))).natAbs ≤ tol)) = A
    generalize partAt (2 * mid - ((ts.getD i 0 : Nat) : Int)) (tol : Int) (ts.map fun k : Nat => (k : Int)) 0 = B
    intro f
    cases A with
    | none =>
      cases B with
      | none => rfl
      | some j => cases f
    | some y =>
      cases B with
      | none => cases f
      | some j =>
        have e : y.2 = Sh70.intAt ms j := Option.some.inj f
        show ((Sh70.absDiff (ms.getD i 0) y.2 : Nat) : Int) = pair_abs (Sh70.intAt ms i) (Sh70.intAt ms j)
        rw [e]
        rfl
theorem part_lt {d tol : Int} : ∀ {ts : List Int} {j k : Nat}, partAt d tol ts j = some k → j ≤ k ∧ k < j + ts.length
  | [], _, _, h => by cases h
  | y :: r, j, k, h => by
    have h' : (if (if y - d < 0 then -(y - d) else y - d) ≤ tol then some j else partAt d tol r (j + 1)) = some k := h
    rw [List.length_cons]
    by_cases c : (if y - d < 0 then -(y - d) else y - d) ≤ tol
    · rw [if_pos c] at h'
      have e := Option.some.inj h'
      omega
    · rw [if_neg c] at h'
      have ih := part_lt (ts := r) h'
      omega
theorem asymOf_bound {ts ms : List Int} {mid tol : Int} {i : Nat} (hl : ts.length = ms.length) (hi : i < ts.length) (hb : ∀ x ∈ ms, -99999 ≤ x ∧ x ≤ 99999) : 0 ≤ asymOf ts ms mid tol i ∧ asymOf ts ms mid tol i ≤ 199998 := by
  unfold asymOf
  split
  · split
    · decide
    · rename_i j e
      have p := part_lt e
      exact pair_abs_bound (hb _ (intAt_mem (by omega))) (hb _ (intAt_mem (by omega)))
  · decide
theorem asymTo_bound {ts ms : List Int} {mid tol : Int} {n : Nat} (hl : ts.length = ms.length) (hn : n ≤ ts.length) (hb : ∀ x ∈ ms, -99999 ≤ x ∧ x ≤ 99999) : 0 ≤ asymTo ts ms mid tol n ∧ asymTo ts ms mid tol n ≤ 199998 * (n : Int) :=
  range_sum_bound fun i hi => asymOf_bound hl (by omega) hb
/-! ### what is due of asymmetry -/
section
variable {tol time : Int} {ts ns : List Int}
theorem len_args : Sh70.isAtMost1024 (Sh70Neutral.toNats ts).length = decide ((ts.length : Int) ≤ 1024) := by
  rw [toNats_len]
  exact decide_eq_decide.mpr (by omega)
theorem asym_bad (h : decide ((ts.length : Int) ≤ 1024) = false) : PySh70.asymmetry tol time ts ns = [-2] := by
  show (match (some (if Sh70.isAtMost1024 (Sh70Neutral.toNats ts).length = true then Sh70.Call.asymmetry tol.toNat time.toNat (Sh70Neutral.toNats ts) (Sh70.signedWords (Sh70Neutral.toNats ns)) else .invalid) : Option Sh70.Call) with | none => [] | some parsed => Sh70Neutral.flatten (Sh70.answer parsed)) = _
  rw [len_args, h]
  rfl
theorem asym_mag (hn : ∀ n ∈ ns, 0 ≤ n) (h : decide ((ts.length : Int) ≤ 1024) = true) (hm : Sh70.areValidMagnitudes (ns.map sg) = false) : PySh70.asymmetry tol time ts ns = [-3] := by
  show (match (some (if Sh70.isAtMost1024 (Sh70Neutral.toNats ts).length = true then Sh70.Call.asymmetry tol.toNat time.toNat (Sh70Neutral.toNats ts) (Sh70.signedWords (Sh70Neutral.toNats ns)) else .invalid) : Option Sh70.Call) with | none => [] | some parsed => Sh70Neutral.flatten (Sh70.answer parsed)) = _
  rw [len_args, h, if_pos rfl, sg_words hn]
  show Sh70Neutral.flatten (if Sh70.areValidMagnitudes (ns.map sg) = false then Sh70.errorAnswer (-3) else _) = _
  rw [if_pos hm]
  rfl
theorem asym_ok (ht : 0 ≤ tol) (h0 : 0 ≤ time) (hts : ∀ t ∈ ts, 0 ≤ t) (hn : ∀ n ∈ ns, 0 ≤ n) (hl : ts.length = ns.length) (h : decide ((ts.length : Int) ≤ 1024) = true) (hm : Sh70.areValidMagnitudes (ns.map sg) = true) :
    PySh70.asymmetry tol time ts ns = [0] ++ [asymTo ts (ns.map sg) time tol ts.length].map fun z => z % 18446744073709551616 := by
  show (match (some (if Sh70.isAtMost1024 (Sh70Neutral.toNats ts).length = true then Sh70.Call.asymmetry tol.toNat time.toNat (Sh70Neutral.toNats ts) (Sh70.signedWords (Sh70Neutral.toNats ns)) else .invalid) : Option Sh70.Call) with | none => [] | some parsed => Sh70Neutral.flatten (Sh70.answer parsed)) = _
  rw [len_args, h, if_pos rfl, sg_words hn]
  show Sh70Neutral.flatten (if Sh70.areValidMagnitudes (ns.map sg) = false then Sh70.errorAnswer (-3) else _) = _
  rw [if_neg (by rw [hm]; decide)]
  show [(0 : Int), ((Sh70.asymmetry (Sh70Neutral.toNats ts) (ns.map sg) ((time.toNat : Nat) : Int) tol.toNat : Nat) : Int)] = [0, asymTo ts (ns.map sg) time tol ts.length % 18446744073709551616]
  have l2 : ts.length = (ns.map sg).length := by rw [List.length_map]; exact hl
  rw [asym_is (by rw [toNats_len]; exact l2), toNats_len, nats_of hts, Int.toNat_of_nonneg h0, Int.toNat_of_nonneg ht]
  have b := asymTo_bound (mid := time) (tol := tol) l2 (Nat.le_refl _) (mag_bound hm)
  have h' := of_decide_eq_true h
  rw [Int.emod_eq_of_lt b.1 (by omega)]
end
end LC
namespace LC
theorem asym_asked {tol time : Int} {ts ns : List Int} (h : PySh70.asymmetry_asked tol time ts ns = true) (hl : decide ((ts.length : Int) ≤ 1024) = true) : ts.length = ns.length := by
  have h' : ((Sh70Neutral.fits tol 32 && (Sh70Neutral.fits time 32 && (Sh70Neutral.allFit ts 32 && (Sh70Neutral.allFit ns 32 && (if Sh70.isAtMost1024 (Sh70Neutral.toNats ts).length = true then ts.length == (Sh70Neutral.toNats ts).length && ns.length == (Sh70Neutral.toNats ts).length
    else ((ts.isEmpty && ns.isEmpty) || (ts.length == (Sh70Neutral.toNats ts).length && ns.length == (Sh70Neutral.toNats ts).length))))))) && decide ((Sh70Neutral.f [[9, tol, time], ts, ns]).length < 1000000)) = true := h
  rw [Bool.and_eq_true, Bool.and_eq_true, Bool.and_eq_true, Bool.and_eq_true, Bool.and_eq_true] at h'
  have h2 := h'.1.2.2.2.2
  rw [len_args, if_pos hl, Bool.and_eq_true, toNats_len] at h2
  exact (eq_of_beq h2.2).symm
end LC
set_option Elab.async false
set_option maxRecDepth 100000
set_option maxHeartbeats 2000000
namespace LC
open PySem PySem.Spec PyProof.Rows L2 Evl
/-! ### whole numbers of the module's top -/
def GI (mg : Str → Option Value) (x : Str) (n : Int) : Prop := ∃ t, mg x = some (.int n t)
theorem pe_gi {X : Cx} {x : Str} {n : Int} {pos : Pos} (hg : Gl X x) (h : GI X.mg x n) (hd : (x == ("__debug__" : Str)) = false := by decide) : PE X (.Name x pos) (tC (.int n)) := by
  obtain ⟨t, e⟩ := h
  exact pe_glob hg e ⟨t, rfl⟩ hd
theorem small {n m : Nat} (h : Nat.ble n m = true := by rfl) : n ≤ m := Nat.le_of_ble_eq_true h
theorem nt {b : Bool} (h : (!b) = true) : b = false := by
  cases b with
  | true => cases h
  | false => rfl
theorem nf {b : Bool} (h : (!b) = false) : b = true := by
  cases b with
  | true => rfl
  | false => cases h
/-! ### what evaluates to a value of which P holds -/
def EvP (te : TE) (σ : L2.St) (H : Hp) (P : V → Hp → Prop) : Prop := ∀ H1, Ex H H1 → ∀ Q : VK, (∀ v H2, Ex H1 H2 → P v H2 → Q v H2) → te σ H1 Q
/-- what stays while all that was known stays -/
def Stays (P : V → Hp → Prop) : Prop := ∀ v H H', Ex H H' → P v H → P v H'
def RetP (P : V → Hp → Prop) (H : Hp) (Q : VK) : Prop := ∀ v H2, Ex H H2 → P v H2 → Q v H2
section
variable {K : PySem.W.Frag} {σ : L2.St} {H H' : Hp} {ta tb te tx : TE} {t u : TT} {x y z v : V} {r : R2} {P : V → Hp → Prop}
theorem EvP.mono (e : Ex H H') (h : EvP te σ H P) : EvP te σ H' P := fun H1 a Q q => h H1 (e.trans a) Q q
theorem ep_imp {P' : V → Hp → Prop} (h : EvP te σ H P) (k : ∀ v H', Ex H H' → P v H' → P' v H') : EvP te σ H P' := fun H1 e Q q => h H1 e Q fun v H2 e2 p => q v H2 e2 (k v H2 (e.trans e2) p)
theorem ep_v (h : Ev te σ H v) : EvP te σ H fun z _ => z = v := fun H1 e Q q => h H1 e Q fun H2 e2 => q v H2 e2 rfl
theorem ep_l {xs : List V} (h : EvL te σ H xs) : EvP te σ H fun z H' => ∃ p, z = .ref p ∧ H' p = some (.lst xs) := fun H1 e Q q => h H1 e Q fun p H2 _ e2 hp => q (.ref p) H2 e2 ⟨p, rfl, hp⟩
/-- an argument of which P holds, then a call on values -/
theorem ep_cb1 {r : List V → Hp → VK → Prop} {P' : V → Hp → Prop} (h : EvP te σ H P) (hr : ∀ v H1, Ex H H1 → P v H1 → ∀ Q : VK, (∀ z H2, Ex H1 H2 → P' z H2 → Q z H2) → r [v] H1 Q) : EvP (tCB r (tCons te tNil)) σ H P' := fun H1 e Q q =>
  h H1 e _ fun v H2 e2 p => hr v H2 (e.trans e2) p Q fun z H3 e3 p' => q z H3 (e2.trans e3) p'
theorem ev_cb1 {r : List V → Hp → VK → Prop} (h : EvP te σ H P) (hr : ∀ v H1, Ex H H1 → P v H1 → ∀ Q : VK, (∀ H2, Ex H1 H2 → Q z H2) → r [v] H1 Q) : Ev (tCB r (tCons te tNil)) σ H z := fun H1 e Q q =>
  h H1 e _ fun v H2 e2 p => hr v H2 (e.trans e2) p Q fun H3 e3 => q H3 (e2.trans e3)
/-- a def's call on one argument of which P holds -/
theorem ev_call1 {sp : Sp} {E : XK} (h : EvP te σ H P) (hr : ∀ v H1, Ex H H1 → P v H1 → ∀ Q : VK, RetV z H1 Q → sp [v] H1 Q E) : Ev (tCall sp [] E (tCons te tNil)) σ H z := fun H1 e Q q =>
  h H1 e _ fun v H2 e2 p => hr v H2 (e.trans e2) p Q fun H3 e3 => q H3 (e2.trans e3)
theorem el_call1 {sp : Sp} {E : XK} {xs : List V} (h : EvP te σ H P) (hr : ∀ v H1, Ex H H1 → P v H1 → ∀ Q : VK, RetL xs H1 Q → sp [v] H1 Q E) : EvL (tCall sp [] E (tCons te tNil)) σ H xs := fun H1 e Q q =>
  h H1 e _ fun v H2 e2 p => hr v H2 (e.trans e2) p Q fun q2 H3 hp e3 h3 => q q2 H3 (fresh_back e2 hp) (e2.trans e3) h3
/-- a def's call on values -/
theorem ev_callA {sp : Sp} {E : XK} {ta : TA} {vs : List V} (h : EvA ta σ H vs) (hr : ∀ H1, Ex H H1 → ∀ Q : VK, RetV z H1 Q → sp vs H1 Q E) : Ev (tCall sp [] E ta) σ H z := fun H1 e Q q =>
  h H1 e _ fun H2 e2 => by
    have k := hr H2 (e.trans e2) Q fun H3 e3 => q H3 (e2.trans e3)
    show sp (vs ++ []) H2 Q E
    rw [List.append_nil]
    exact k
theorem el_callA {sp : Sp} {E : XK} {ta : TA} {vs xs : List V} (h : EvA ta σ H vs) (hr : ∀ H1, Ex H H1 → ∀ Q : VK, RetL xs H1 Q → sp vs H1 Q E) : EvL (tCall sp [] E ta) σ H xs := fun H1 e Q q =>
  h H1 e _ fun H2 e2 => by
    have k := hr H2 (e.trans e2) Q fun q2 H3 hp e3 h3 => q q2 H3 (fresh_back e2 hp) (e2.trans e3) h3
    show sp (vs ++ []) H2 Q E
    rw [List.append_nil]
    exact k
theorem ep_callA {sp : Sp} {E : XK} {ta : TA} {vs : List V} {P' : V → Hp → Prop} (h : EvA ta σ H vs) (hr : ∀ H1, Ex H H1 → ∀ Q : VK, RetP P' H1 Q → sp vs H1 Q E) : EvP (tCall sp [] E ta) σ H P' := fun H1 e Q q =>
  h H1 e _ fun H2 e2 => by
    have k := hr H2 (e.trans e2) Q fun v H3 e3 p => q v H3 (e2.trans e3) p
    show sp (vs ++ []) H2 Q E
    rw [List.append_nil]
    exact k
/-! ### statements -/
variable {D : Ends} {tu tw tz : TS}
theorem s_retP (h : EvP te σ H P) (k : RetP P H D.rt) : tRet te D σ H := h H (Ex.refl H) _ k
theorem q_asgP {i : Nat} (h : EvP te σ H P) (k : ∀ v H1, Ex H H1 → P v H1 → tz D (σ.set i (some v)) H1) : tSeq (tAsg te (gName i)) tz D σ H := h H (Ex.refl H) _ k
theorem retP_mono {Q : VK} (k : RetP P H Q) (e : Ex H H') : RetP P H' Q := fun v H2 e2 p => k v H2 (e.trans e2) p
theorem retV_mono {Q : VK} (k : RetV v H Q) (e : Ex H H') : RetV v H' Q := fun H2 e2 => k H2 (e.trans e2)
theorem retL_mono {Q : VK} {xs : List V} (k : RetL xs H Q) (e : Ex H H') : RetL xs H' Q := fun p H2 hp e2 h => k p H2 (fresh_back e hp) (e.trans e2) h
/-! ### a list of whole numbers, made turn by turn -/
theorem given_all (n : Nat) (g : Nat → V) : given n (fun _ => true) g = (List.range n).map g := by
  unfold given
  rw [List.filter_eq_self.mpr fun _ _ => rfl]
theorem et_yes : EvT tYes σ H true := fun H1 _ _ q => q H1 (Ex.refl H1)
/-- [e for x in xs] over a list of whole numbers, each a whole number by g -/
theorem el_ints {a : Addr} {ns : List Int} {tl : TE} {j : Nat} {vs : List Nat} (g : Int → Int) (h : Ev tl σ H (.ref a)) (hx : SqL K H a (ns.map V.int)) (hz : ns.length ≤ 40000) (hw : ∀ x, wipe ((wipe σ vs).set j (some x)) vs = wipe σ vs)
    (he : ∀ n H1, Ex H H1 → n ∈ ns → Ev te ((wipe σ vs).set j (some (.int n))) H1 (.int (g n))) : EvL (tLc (iList K tl) (gName j) tYes te vs) σ H ((ns.map g).map V.int) := by
  have k := el_lcL (K := K) (te := te) (t := tYes) (vs := vs) (j := j) (fun _ => true) (fun i => V.int (g (ns.getD i 0))) h hx (by rw [List.length_map]; exact hz) hw (fun _ _ _ _ _ => et_yes) fun i x H1 e hi _ => by
    obtain ⟨n, hn, rfl⟩ : ∃ n, ns[i]? = some n ∧ x = V.int n := by
      rw [List.getElem?_map] at hi
      cases q : ns[i]? with
      | none =>
        rw [q] at hi
        cases hi
      | some n =>
        rw [q] at hi
        exact ⟨n, rfl, (Option.some.inj hi).symm⟩
    have q : ns.getD i 0 = n := by
      rw [List.getD_eq_getElem?_getD, hn]
      rfl
    rw [q]
    exact he n H1 e (List.mem_of_getElem? hn)
  rw [given_all, List.length_map] at k
  have e : (List.range ns.length).map (fun i => V.int (g (ns.getD i 0))) = (ns.map g).map V.int := by
    apply List.ext_getElem?
    intro i
    rw [List.getElem?_map, List.getElem?_map, List.getElem?_map]
    by_cases c : i < ns.length
    · rw [List.getElem?_range c, List.getElem?_eq_getElem c]
      show some (V.int (g (ns.getD i 0))) = some (V.int (g ns[i]))
      rw [List.getD_eq_getElem?_getD, List.getElem?_eq_getElem c]
      rfl
    · rw [List.getElem?_eq_none (by rw [List.length_range]; omega), List.getElem?_eq_none (by omega)]
      rfl
  rw [e] at k
  exact k
/-! ### chains, sums of lists, calls on a new list -/
theorem ev_chain {r' : R2} {tc : TE} {k1 k2 : Bool} (ha : Ev ta σ H x) (hb : Ev tb σ H y) (h1 : RV r x y H (.bl k1)) (hc : k1 = true → Ev tc σ H z) (h2 : k1 = true → RV r' y z H (.bl k2)) : Ev (tChain r r' ta tb tc) σ H (.bl (k1 && k2)) := fun H1 e Q q =>
  ha H1 e _ fun H2 e2 => hb H2 (e.trans e2) _ fun H3 e3 => h1 H3 ((e.trans e2).trans e3) _ fun H4 e4 => ⟨k1, rfl, by
    cases k1 with
    | true =>
      show tc σ H4 fun w' H5 => r' y w' H5 Q
      exact hc rfl H4 (((e.trans e2).trans e3).trans e4) _ fun H5 e5 => h2 rfl H5 ((((e.trans e2).trans e3).trans e4).trans e5) Q fun H6 e6 => q H6 ((((e2.trans e3).trans e4).trans e5).trans e6)
    | false =>
      show Q (.bl false) H4
      exact q H4 ((e2.trans e3).trans e4)⟩
/-- a <= b <= c of whole numbers -/
theorem ev_between {tc : TE} {i j k : Int} (ha : Ev ta σ H (.int i)) (hb : Ev tb σ H (.int j)) (hc : Ev tc σ H (.int k)) : Ev (tChain (rI0 fun i j => .bl (decide (i ≤ j))) (rI0 fun i j => .bl (decide (i ≤ j))) ta tb tc) σ H (.bl (decide (i ≤ j) && decide (j ≤ k))) :=
  ev_chain ha hb rv_I0 (fun _ => hc) (fun _ => rv_I0)
theorem el_cat {xs ys : List V} (ha : EvL ta σ H xs) (hb : EvL tb σ H ys) (hl : xs.length + ys.length ≤ 100000) : EvL (tOp rCat ta tb) σ H (xs ++ ys) := fun H1 e Q q =>
  ha H1 e _ fun p H2 hp e2 h2 => hb H2 (e.trans e2) _ fun p' H3 _ e3 h3 => ⟨p, p', xs, ys, rfl, rfl, e3 p _ h2, h3, sz_of hl, fun d hd =>
    q d _ (fresh_back (e2.trans e3) hd) ((e2.trans e3).trans (Ex.new hd)) upd_same⟩
/-- a def called on a new list, handing back a new list | a value -/
theorem el_callL {sp : Sp} {E : XK} {xs ys : List V} (h : EvL te σ H xs) (hr : ∀ p H1, Ex H H1 → H1 p = some (.lst xs) → ∀ Q : VK, RetL ys H1 Q → sp [.ref p] H1 Q E) : EvL (tCall sp [] E (tCons te tNil)) σ H ys := fun H1 e Q q =>
  h H1 e _ fun p H2 _ e2 hp => hr p H2 (e.trans e2) hp Q fun p' H3 hp' e3 h3 => q p' H3 (fresh_back e2 hp') (e2.trans e3) h3
theorem ev_callL {sp : Sp} {E : XK} {xs : List V} (h : EvL te σ H xs) (hr : ∀ p H1, Ex H H1 → H1 p = some (.lst xs) → ∀ Q : VK, RetV z H1 Q → sp [.ref p] H1 Q E) : Ev (tCall sp [] E (tCons te tNil)) σ H z := fun H1 e Q q =>
  h H1 e _ fun p H2 _ e2 hp => hr p H2 (e.trans e2) hp Q fun H3 e3 => q H3 (e2.trans e3)
theorem sq_new {p : Addr} {xs : List V} (h : H p = some (.lst xs)) : SqL K H p xs := .inl (.inl h)
/-- (a, b, ..) = a new list: the names hold its items -/
theorem q_unl {n : Nat} {t : TGs} {xs : List V} (h : EvL te σ H xs) (hn : xs.length = n) (k : ∀ H1, Ex H H1 → t xs σ H1 fun σ' H' => tz D σ' H') : tSeq (tAsg te (gUnl K n t)) tz D σ H := h H (Ex.refl H) _ fun p H1 _ e hp => ⟨p, xs, rfl, .inl (.inl hp), hn, k H1 e⟩
theorem int1 {z : Int} : ([z].map V.int) = [V.int z] := rfl
end
end LC
set_option Elab.async false
set_option maxRecDepth 100000
set_option maxHeartbeats 2000000
namespace LC
open PySem PySem.Spec PyProof.Rows L2 Evl
/-! ### what a for or a comprehension walks: n turns, what each gives -/
def EvW (wi : TI) (σ : L2.St) (H : Hp) (n : Nat) (Y : Nat → Hp → V → Hp → Prop) : Prop := ∀ H1, Ex H H1 → ∀ R : It → Hp → Prop, (∀ (J : It) (H2 : Hp) (G : Hp → Prop), Ex H1 H2 → Walk J n G Y → (∀ H3, Ex H2 H3 → G H3) → R J H2) → wi σ H1 R
/-- the objects at qs are os -/
def ObjsAt (H : Hp) (qs : List Addr) (os : List HO) : Prop := qs.length = os.length ∧ ∀ (i : Nat) (q : Addr) (o : HO), qs[i]? = some q → os[i]? = some o → H q = some o
theorem ObjsAt.mono {H H' : Hp} {qs : List Addr} {os : List HO} (h : ObjsAt H qs os) (e : Ex H H') : ObjsAt H' qs os := ⟨h.1, fun i q o a b => e _ _ (h.2 i q o a b)⟩
theorem ObjsAt.get {H : Hp} {qs : List Addr} {os : List HO} {i : Nat} {o : HO} (h : ObjsAt H qs os) (ho : os[i]? = some o) : ∃ q, qs[i]? = some q ∧ H q = some o := by
  have hi : i < os.length := (List.getElem?_eq_some_iff.mp ho).1
  have hq : i < qs.length := by rw [h.1]; exact hi
  exact ⟨qs[i], List.getElem?_eq_getElem hq, h.2 i _ o (List.getElem?_eq_getElem hq) ho⟩
theorem ObjsAt.at {H : Hp} {qs : List Addr} {os : List HO} {i : Nat} {x : V} (h : ObjsAt H qs os) (hx : (qs.map V.ref)[i]? = some x) : ∃ q o, x = .ref q ∧ qs[i]? = some q ∧ os[i]? = some o ∧ H q = some o := by
  rw [List.getElem?_map] at hx
  cases e : qs[i]? with
  | none =>
    rw [e] at hx
    cases hx
  | some q =>
    rw [e] at hx
    have hi : i < qs.length := (List.getElem?_eq_some_iff.mp e).1
    have ho : i < os.length := by rw [← h.1]; exact hi
    exact ⟨q, os[i], (Option.some.inj hx).symm, rfl, List.getElem?_eq_getElem ho, h.2 i q _ e (List.getElem?_eq_getElem ho)⟩
/-- a new object of the content o -/
def EvO (te : TE) (σ : L2.St) (H : Hp) (o : HO) : Prop := ∀ H1, Ex H H1 → ∀ Q : VK, (∀ p H2, H1 p = none → Ex H1 H2 → H2 p = some o → Q (.ref p) H2) → te σ H1 Q
theorem eo_l {te : TE} {σ : L2.St} {H : Hp} {xs : List V} (h : EvL te σ H xs) : EvO te σ H (.lst xs) := h
theorem eo_u {te : TE} {σ : L2.St} {H : Hp} {xs : List V} (h : EvU te σ H xs) : EvO te σ H (.tup xs) := h
/-- what is handed on: a new list of new objects, no two alike -/
def RetOs (os : List HO) (H : Hp) (Q : VK) : Prop := ∀ (p : Addr) (qs : List Addr) (H2 : Hp), H p = none → Ex H H2 → H2 p = some (.lst (qs.map V.ref)) → ObjsAt H2 qs os → (∀ q ∈ qs, H q = none ∧ q ≠ p) → qs.Nodup → Q (.ref p) H2
theorem retOs_mono {os : List HO} {H H' : Hp} {Q : VK} (k : RetOs os H Q) (e : Ex H H') : RetOs os H' Q := fun p qs H2 hp e2 h1 h2 h3 h4 => k p qs H2 (fresh_back e hp) (e.trans e2) h1 h2 (fun q m => ⟨fresh_back e (h3 q m).1, (h3 q m).2⟩) h4
def EvOs (te : TE) (σ : L2.St) (H : Hp) (os : List HO) : Prop := ∀ H1, Ex H H1 → ∀ Q : VK, RetOs os H1 Q → te σ H1 Q
section
variable {K : PySem.W.Frag} {σ : L2.St} {H H' : Hp} {ta tb te tx tl : TE} {t u : TT} {x y z v : V} {r : R2} {P : V → Hp → Prop} {n : Nat} {Y : Nat → Hp → V → Hp → Prop} {wi : TI} {g : TG} {vs : List Nat} {a b : Addr} {xs ys : List V}
theorem EvW.mono (h : EvW wi σ H n Y) (e : Ex H H') : EvW wi σ H' n Y := fun H1 a R k => h H1 (e.trans a) R k
theorem ew_list (h : Ev tl σ H (.ref a)) (hx : SqL K H a xs) : EvW (iList K tl) σ H xs.length (YAt xs) := fun H1 e R k => h H1 e _ fun H2 e2 =>
  ⟨a, rfl, ⟨xs, ex_l (e.trans e2) hx⟩, k _ H2 _ e2 walk_list fun _ e3 => ex_l ((e.trans e2).trans e3) hx⟩
theorem ew_listL (h : EvL tl σ H xs) : EvW (iList K tl) σ H xs.length (YAt xs) := fun H1 e R k => h H1 e _ fun p H2 _ e2 hp =>
  ⟨p, rfl, ⟨xs, sq_new hp⟩, k _ H2 _ e2 walk_list fun _ e3 => ex_l e3 (sq_new hp)⟩
theorem ew_rng1 {ta : TA} {m : Int} (h : EvA ta σ H [.int m]) (h0 : 0 ≤ m ∧ m ≤ 1000000) : EvW (iRng1 ta) σ H m.toNat (YFn fun i => .int (i : Int)) := fun H1 e R k => h H1 e _ fun H2 e2 =>
  ⟨m, rfl, by omega, by omega, k _ H2 (fun _ => True) e2 ((walk_range (lo := 0) (n := m.toNat)).mono (fun _ z => z) fun i H x H' _ _ yy => ⟨yy.1, yy.2.trans (congrArg V.int (Int.zero_add _))⟩) fun _ _ => True.intro⟩
theorem ew_rng2 {ta : TA} {lo m : Int} (h : EvA ta σ H [.int lo, .int m]) (h0 : 0 ≤ lo ∧ lo ≤ 1000000 ∧ 0 ≤ m ∧ m ≤ 1000000) : EvW (iRng2 ta) σ H (m - lo).toNat (YFn fun i => .int (lo + (i : Int))) := fun H1 e R k => h H1 e _ fun H2 e2 =>
  ⟨lo, m, rfl, ⟨by omega, by omega, by omega, by omega⟩, k _ H2 (fun _ => True) e2 walk_range fun _ _ => True.intro⟩
theorem ew_rng3 {ta : TA} {i j c : Int} (h : EvA ta σ H [.int i, .int j, .int c]) (h0 : RgC i j c n) : EvW (iRng3 ta) σ H n (YFn fun k => .int (i + (k : Nat) * c)) := fun H1 e R k => h H1 e _ fun H2 e2 =>
  ⟨i, j, c, n, rfl, h0, k _ H2 (fun _ => True) e2 walk_rangeC fun _ _ => True.intro⟩
theorem ew_enum {ta : TA} (h : EvA ta σ H [.ref a]) (hx : SqL K H a xs) : EvW (iEnum K ta) σ H xs.length (YPair (fun i => some (.int (i : Nat))) fun i => xs[i]?) := fun H1 e R k => h H1 e _ fun H2 e2 =>
  ⟨a, xs, rfl, ex_l (e.trans e2) hx, k _ H2 _ e2 walk_enum fun _ e3 => ex_l ((e.trans e2).trans e3) hx⟩
theorem ew_zip {ta : TA} (h : EvA ta σ H [.ref a, .ref b]) (hx : SqL K H a xs) (hy : SqL K H b ys) (hn : n = min xs.length ys.length) : EvW (iZip K ta) σ H n (YPair (fun i => xs[i]?) fun i => ys[i]?) := fun H1 e R k => h H1 e _ fun H2 e2 =>
  ⟨a, b, xs, ys, rfl, ex_l (e.trans e2) hx, ex_l (e.trans e2) hy, k _ H2 _ e2 (walk_zip hn) fun _ e3 => ⟨ex_l ((e.trans e2).trans e3) hx, ex_l ((e.trans e2).trans e3) hy⟩⟩
/-! ### comprehensions -/
/-- each item a value; with tests -/
theorem el_lcW (f : Nat → Bool) (v : Nat → V) (hw : EvW wi σ H n Y) (hn : n < 50000)
    (he : ∀ i x H1 H2, i < n → Ex H H1 → Y i H1 x H2 → ∀ Qg : L2.St → Hp → Prop, (∀ σ2 H3, wipe σ2 vs = wipe σ vs → Ex H1 H3 → EvT t σ2 H3 (f i) → (f i = true → Ev te σ2 H3 (v i)) → Qg σ2 H3) → g x (wipe σ vs) H2 Qg) : EvL (tLc wi g t te vs) σ H (given n f v) := fun H1 e Q q =>
  hw H1 e _ fun J H2 G e2 w hG Dl hD => by
    refine lc_it w (fun i H' => H2 Dl = none ∧ Ex H2 H' ∧ H' Dl = some (.lst (given i f v))) ⟨hD, Ex.new hD, upd_same⟩ (fun i H' _ p => hG H' p.2.1) (fun i x H3 H4 hi p yy => ?_) fun H' p => q Dl H' (fresh_back e2 p.1) (e2.trans p.2.1) p.2.2
    obtain ⟨p1, p2, p3⟩ := p
    refine he i x H3 H4 hi ((e.trans e2).trans p2) yy _ fun σ2 H5 hwp e5 ht hv => ⟨hwp, ?_⟩
    refine ht H5 (Ex.refl H5) _ fun H6 e6 => ?_
    cases hf : f i with
    | true =>
      show te σ2 H6 _
      refine hv hf H6 e6 _ fun H7 e7 => ⟨given i f v, e7 Dl _ (e6 Dl _ (e5 Dl _ p3)), sz_lt (by have := given_len i f v; omega), p1, Ex.mut (((p2.trans e5).trans e6).trans e7) p1, ?_⟩
      rw [given_yes hf]
      exact upd_same
    | false =>
      show H2 Dl = none ∧ Ex H2 H6 ∧ H6 Dl = some (.lst (given (i + 1) f v))
      refine ⟨p1, (p2.trans e5).trans e6, ?_⟩
      rw [given_no hf]
      exact e6 Dl _ (e5 Dl _ p3)
/-- .. without tests -/
theorem el_lcV (v : Nat → V) (hw : EvW wi σ H n Y) (hn : n < 50000)
    (he : ∀ i x H1 H2, i < n → Ex H H1 → Y i H1 x H2 → ∀ Qg : L2.St → Hp → Prop, (∀ σ2 H3, wipe σ2 vs = wipe σ vs → Ex H1 H3 → Ev te σ2 H3 (v i) → Qg σ2 H3) → g x (wipe σ vs) H2 Qg) : EvL (tLc wi g tYes te vs) σ H ((List.range n).map v) := by
  have k := el_lcW (te := te) (t := tYes) (g := g) (vs := vs) (fun _ => true) v hw hn fun i x H1 H2 hi e yy Qg q => he i x H1 H2 hi e yy Qg fun σ2 H3 a b c => q σ2 H3 a b et_yes fun _ => c
  rw [given_all] at k
  exact k
theorem nodup_snoc {l : List Addr} {a : Addr} (h : l.Nodup) (ha : a ∉ l) : (l ++ [a]).Nodup := by
  rw [List.nodup_append]
  refine ⟨h, List.nodup_cons.mpr ⟨by simp, List.nodup_nil⟩, fun x hx y hy => ?_⟩
  have e : y = a := by simpa using hy
  rw [e]
  intro z
  rw [z] at hx
  exact ha hx
/-- each item a new object -/
theorem eos_lc {os : List HO} (hw : EvW wi σ H os.length Y) (hn : os.length ≤ 90000)
    (he : ∀ i x o H1 H2, os[i]? = some o → Ex H H1 → Y i H1 x H2 → ∀ Qg : L2.St → Hp → Prop, (∀ σ2 H3, wipe σ2 vs = wipe σ vs → Ex H1 H3 → EvO te σ2 H3 o → Qg σ2 H3) → g x (wipe σ vs) H2 Qg) : EvOs (tLc wi g tYes te vs) σ H os := fun H1 e Q q =>
  hw H1 e _ fun J H2 G e2 w hG Dl hD => by
    refine lc_it w (fun i H' => i ≤ os.length ∧ Ex H2 H' ∧ ∃ qs : List Addr, H' Dl = some (.lst (qs.map V.ref)) ∧ qs.length = i ∧ (∀ (j : Nat) (q : Addr) (o : HO), qs[j]? = some q → os[j]? = some o → H' q = some o) ∧ (∀ q ∈ qs, H2 q = none ∧ q ≠ Dl) ∧ qs.Nodup)
      ⟨Nat.zero_le _, Ex.new hD, [], upd_same, rfl, fun j q o h => by simp at h, fun q h => absurd h (by simp), List.nodup_nil⟩ (fun i H' _ p => hG H' p.2.1) (fun i x H3 H4 hi p yy => ?_) fun H' p => ?_
    · obtain ⟨_, e3, qs, hp, hl, ho, hf, hd⟩ := p
      have go := List.getElem?_eq_getElem hi
      refine he i x _ H3 H4 go ((e.trans e2).trans e3) yy _ fun σ2 H5 hwp e5 hev => ⟨hwp, ?_⟩
      show te σ2 H5 _
      refine hev H5 (Ex.refl H5) _ fun a H6 ha e6 h6 => ⟨qs.map V.ref, e6 _ _ (e5 _ _ hp), sz_lt (by rw [List.length_map, hl]; omega), hi, Ex.mut ((e3.trans e5).trans e6) hD, qs ++ [a], ?_, ?_, ?_, ?_, ?_⟩
      · rw [upd_same, List.map_append]
        rfl
      · rw [List.length_append, hl]
        rfl
      · have nD : a ≠ Dl := fun z => by
          rw [z, e5 _ _ hp] at ha
          cases ha
        intro j b o hb hob
        by_cases c : j < qs.length
        · rw [List.getElem?_append_left c] at hb
          have m := hf b (List.mem_of_getElem? hb)
          rw [upd_ne m.2]
          exact e6 _ _ (e5 _ _ (ho j b o hb hob))
        · have cj : j = qs.length := by
            have h2 := (List.getElem?_eq_some_iff.mp hb).1
            rw [List.length_append] at h2
            have : ([a] : List Addr).length = 1 := rfl
            omega
          rw [cj, List.getElem?_append_right (Nat.le_refl _), Nat.sub_self] at hb
          have eb : a = b := Option.some.inj hb
          rw [← eb, upd_ne nD, h6, ← hob, cj, hl]
          exact go.symm
      · intro b hb
        rcases List.mem_append.mp hb with m | m
        · exact hf b m
        · have eb : b = a := by simpa using m
          rw [eb]
          refine ⟨fresh_back (e3.trans e5) ha, fun z => ?_⟩
          rw [z, e5 _ _ hp] at ha
          cases ha
      · refine nodup_snoc hd fun m => ?_
        obtain ⟨j, hj⟩ := List.getElem?_of_mem m
        have hj2 : j < os.length := by
          have := (List.getElem?_eq_some_iff.mp hj).1
          omega
        have z := e5 _ _ (ho j a _ hj (List.getElem?_eq_getElem hj2))
        rw [ha] at z
        cases z
    · obtain ⟨_, e3, qs, hp, hl, ho, hf, hd⟩ := p
      exact q Dl qs H' (fresh_back e2 hD) (e2.trans e3) hp ⟨hl, ho⟩ (fun b m => ⟨fresh_back e2 (hf b m).1, (hf b m).2⟩) hd
end
end LC
set_option Elab.async false
set_option maxRecDepth 100000
set_option maxHeartbeats 2000000
namespace LC
open PySem PySem.Spec PyProof.Rows L2 Evl
/-- the heap without what stands at d -/
def hide (H : Hp) (d : Addr) : Hp := fun b => if b = d then none else H b
theorem hide_at (H : Hp) (d : Addr) : hide H d d = none := if_pos rfl
theorem hide_of {H : Hp} {d b : Addr} {o : HO} (h : H b = some o) (n : b ≠ d) : hide H d b = some o := (if_neg n).trans h
theorem hide_ex (H : Hp) (d : Addr) : Ex (hide H d) H := fun b o h => by
  unfold hide at h
  by_cases c : b = d
  · rw [if_pos c] at h
    cases h
  · rw [if_neg c] at h
    exact h
section
variable {K : PySem.W.Frag} {σ : L2.St} {H H' : Hp} {ta tb te tx tl : TE} {t u : TT} {x y z v : V} {r : R2} {P : V → Hp → Prop} {n : Nat} {Y : Nat → Hp → V → Hp → Prop} {wi : TI} {g : TG} {vs : List Nat} {a b : Addr} {xs ys : List V}
/-- [e for x in xs] over a list of whole numbers, each a value by g -/
theorem el_vals {ns : List Int} {j : Nat} (g : Int → V) (h : Ev tl σ H (.ref a)) (hx : SqL K H a (ns.map V.int)) (hz : ns.length ≤ 40000) (hw : ∀ x, wipe ((wipe σ vs).set j (some x)) vs = wipe σ vs)
    (he : ∀ n H1, Ex H H1 → n ∈ ns → Ev te ((wipe σ vs).set j (some (.int n))) H1 (g n)) : EvL (tLc (iList K tl) (gName j) tYes te vs) σ H (ns.map g) := by
  have hwk := ew_list (K := K) h hx
  rw [List.length_map] at hwk
  have k := el_lcV (te := te) (g := gName j) (vs := vs) (fun i => g (ns.getD i 0)) hwk (by omega) fun i y H1 H2 hi e yy Qg q => by
    obtain ⟨rfl, hy⟩ := yy
    obtain ⟨n, hn, rfl⟩ := map_get hy
    refine q _ _ (hw _) (Ex.refl _) ?_
    have e2 : ns.getD i 0 = n := getD_some hn
    show Ev te _ _ (g (ns.getD i 0))
    rw [e2]
    exact he n _ e (List.mem_of_getElem? hn)
  have e : (List.range ns.length).map (fun i => g (ns.getD i 0)) = ns.map g := by
    apply List.ext_getElem?
    intro i
    rw [List.getElem?_map, List.getElem?_map]
    by_cases c : i < ns.length
    · rw [List.getElem?_range c, List.getElem?_eq_getElem c]
      show some (g (ns.getD i 0)) = some (g ns[i])
      rw [List.getD_eq_getElem?_getD, List.getElem?_eq_getElem c]
      rfl
    · rw [List.getElem?_eq_none (by rw [List.length_range]; omega), List.getElem?_eq_none (by omega)]
      rfl
  rw [e] at k
  exact k
/-- xs.extend(ys), ys a new list -/
theorem s_ext {D : Ends} {i : Nat} {l : Addr} (hl : H l = some (.lst xs)) (hi : σ[i]? = some (some (.ref l))) (h : EvL te σ H ys) (hz : xs.length + ys.length ≤ 100000) (k : ∀ H1, Ex H H1 → D.nx σ (upd H1 l (.lst (xs ++ ys)))) : tDrop (tBM K "list" rExtend (tVar i) (tCons te tNil)) D σ H :=
  ⟨_, hi, Or.inl ⟨rfl, xs, sq_of hl⟩, h H (Ex.refl H) _ fun p H2 _ e2 h2 => ⟨l, p, xs, ys, rfl, rfl, e2 l _ hl, h2, sz_of hz, k H2 e2⟩⟩
/-- sorted(xs) -/
theorem el_sorted {ns : List Int} (h : Ev ta σ H (.ref a)) (hx : SqL K H a (ns.map V.int)) : EvL (tCB (rSortedI K) (tCons ta tNil)) σ H ((ns.mergeSort fun x y => decide (x ≤ y)).map V.int) := fun H1 e Q q => h H1 e _ fun H2 e2 =>
  ⟨a, ns, rfl, ex_l (e.trans e2) hx, fun ns' p hp hs hn => by
    have k := q p (upd H2 p (.lst (ns'.map V.int))) (fresh_back e2 hn) (e2.trans (Ex.new hn))
    rw [← PySem.W.os_sorted_mergeSort hp hs] at k
    exact k upd_same⟩
/-- all(xs), sum(xs) of a new list -/
theorem ev_allN {bs : List Bool} (h : EvL ta σ H (bs.map V.bl)) : Ev (tCB (rAll K) (tCons ta tNil)) σ H (.bl (bs.all id)) := fun H1 e Q q => h H1 e _ fun p H2 _ e2 hp => ⟨p, bs, rfl, sq_new hp, q H2 e2⟩
theorem ev_sumN {ns : List Int} (h : EvL ta σ H (ns.map V.int)) : Ev (tCB (rSum K) (tCons ta tNil)) σ H (.int ns.sum) := fun H1 e Q q => h H1 e _ fun p H2 _ e2 hp => ⟨p, ns, rfl, sq_new hp, q H2 e2⟩
theorem ev_sum {ns : List Int} (h : Ev ta σ H (.ref a)) (hx : SqL K H a (ns.map V.int)) : Ev (tCB (rSum K) (tCons ta tNil)) σ H (.int ns.sum) := fun H1 e Q q => h H1 e _ fun H2 e2 => ⟨a, ns, rfl, ex_l (e.trans e2) hx, q H2 e2⟩
/-- abs(n) -/
theorem ev_abs {i : Int} (h : Ev ta σ H (.int i)) : Ev (tCB (fun xs H Q => ∃ i : Int, xs = [.int i] ∧ Q (.int (if i < 0 then -i else i)) H) (tCons ta tNil)) σ H (.int (if i < 0 then -i else i)) := fun H1 e Q q => h H1 e _ fun H2 e2 => ⟨i, rfl, q H2 e2⟩
/-- xs[i] of a new list, a list that stands, a tuple -/
theorem ev_ixN {tb : TE} {i : Int} (h : EvL ta σ H xs) (hb : ∀ H1, Ex H H1 → Ev tb σ H1 (.int i)) (hi : atI xs i = some v) : Ev (tOp (rIxL K) ta tb) σ H v := ev_opL1 h hb fun p H1 hp _ => rv_ixL (sq_new hp) hi
/-- o.f -/
theorem ev_fld {C dx : Addr} {fs : List (Str × V)} {f : Str} (h : Ev ta σ H (.ref a)) (ha : H a = some (.ins C dx fs)) (hc : Cls K C) (hn : NoAttr K C f) (hv : fs.lookup f = some v) : Ev (tFld K ta f) σ H v := fun H1 e Q q => h H1 e _ fun H2 e2 =>
  ⟨a, C, dx, fs, v, rfl, (e.trans e2) _ _ ha, hc, hn, hv, q H2 e2⟩
/-- o.m(..), handing back a value | a new list -/
theorem ev_meth {C dx : Addr} {fs : List (Str × V)} {m : Str} {sp : Sp} {E : XK} {t : TA} {ws : List V} (h : Ev ta σ H (.ref a)) (ha : H a = some (.ins C dx fs)) (hm : fs.lookup m = none) (ht : EvA t σ H ws) (hr : ∀ H1, Ex H H1 → ∀ Q : VK, RetV z H1 Q → sp (.ref a :: ws) H1 Q E) : Ev (tMeth C m sp [] E ta t) σ H z := fun H1 e Q q =>
  h H1 e _ fun H2 e2 => ⟨a, dx, fs, rfl, (e.trans e2) _ _ ha, hm, ht H2 (e.trans e2) _ fun H3 e3 => by
    have k := hr H3 ((e.trans e2).trans e3) Q fun H4 e4 => q H4 ((e2.trans e3).trans e4)
    show sp (.ref a :: (ws ++ [])) H3 Q E
    rw [List.append_nil]
    exact k⟩
theorem el_meth {C dx : Addr} {fs : List (Str × V)} {m : Str} {sp : Sp} {E : XK} {t : TA} {ws : List V} (h : Ev ta σ H (.ref a)) (ha : H a = some (.ins C dx fs)) (hm : fs.lookup m = none) (ht : EvA t σ H ws) (hr : ∀ H1, Ex H H1 → ∀ Q : VK, RetL xs H1 Q → sp (.ref a :: ws) H1 Q E) : EvL (tMeth C m sp [] E ta t) σ H xs := fun H1 e Q q =>
  h H1 e _ fun H2 e2 => ⟨a, dx, fs, rfl, (e.trans e2) _ _ ha, hm, ht H2 (e.trans e2) _ fun H3 e3 => by
    have k := hr H3 ((e.trans e2).trans e3) Q fun p H4 hp e4 h4 => q p H4 (fresh_back (e2.trans e3) hp) ((e2.trans e3).trans e4) h4
    show sp (.ref a :: (ws ++ [])) H3 Q E
    rw [List.append_nil]
    exact k⟩
/-- a call with one argument a new list, others ahead and behind: the argument's evaluation is told by hand -/
theorem ea_consP {tr : TA} {P' : List V → Hp → Prop} (h : EvL te σ H xs) (hr : ∀ p H1, Ex H H1 → H1 p = some (.lst xs) → ∀ Q : List V → Hp → Prop, (∀ ws H2, Ex H1 H2 → P' (.ref p :: ws) H2 → Q ws H2) → tr σ H1 Q) :
    ∀ H1, Ex H H1 → ∀ Q : List V → Hp → Prop, (∀ ws H2, Ex H1 H2 → P' ws H2 → Q ws H2) → tCons te tr σ H1 Q := fun H1 e Q q =>
  h H1 e _ fun p H2 _ e2 hp => hr p H2 (e.trans e2) hp _ fun ws H3 e3 hP => q _ H3 (e2.trans e3) hP
/-- x, y = e1, e2 -/
theorem q_par {i j : Nat} {tz : TS} {D : Ends} {t : TA} (h : EvA t σ H [x, y]) (k : ∀ H1, Ex H H1 → tz D ((σ.set i (some x)).set j (some y)) H1) : tSeq (tPar i j t) tz D σ H := h H (Ex.refl H) _ fun H1 e => ⟨x, y, rfl, k H1 e⟩
/-- (a, b, ..) = a new tuple: the names hold its items -/
theorem q_untup {n : Nat} {t : TGs} {tz : TS} {D : Ends} (h : EvU te σ H xs) (hn : xs.length = n) (k : ∀ H1, Ex H H1 → t xs σ H1 fun σ' H' => tz D σ' H') : tSeq (tAsg te (gTup K n t)) tz D σ H := h H (Ex.refl H) _ fun p H1 _ e hp => ⟨p, xs, rfl, .inl (.inl hp), hn, k H1 e⟩
/-- both new lists -/
theorem q_parLL {i j : Nat} {tz : TS} {D : Ends} (ha : EvL ta σ H xs) (hb : EvL tb σ H ys) (k : ∀ p p' H1, Ex H H1 → H1 p = some (.lst xs) → H1 p' = some (.lst ys) → tz D ((σ.set i (some (.ref p))).set j (some (.ref p'))) H1) : tSeq (tPar i j (tCons ta (tCons tb tNil))) tz D σ H :=
  ha H (Ex.refl H) _ fun p H1 _ e1 hp => hb H1 e1 _ fun p' H2 _ e2 hp' => ⟨_, _, rfl, k p p' H2 (e1.trans e2) (e2 _ _ hp) hp'⟩
/-- o.f = e -/
theorem s_fldV {i : Nat} {C dx : Addr} {fs : List (Str × V)} {f : Str} {D : Ends} (h : Ev te σ H v) (hi : σ[i]? = some (some (.ref a))) (ha : H a = some (.ins C dx fs)) (hc : Cls K C) (hn : NoAttr K C f) (hl : fs.length < 1000) (k : ∀ H2, Ex H H2 → D.nx σ (upd H2 a (.ins C dx (putF f v fs)))) : sFld K (tVar i) te f D σ H :=
  h H (Ex.refl H) _ fun H2 e2 => ⟨_, hi, a, C, dx, fs, rfl, e2 _ _ ha, hc, hn, hl, k H2 e2⟩
theorem s_fldL {i : Nat} {C dx : Addr} {fs : List (Str × V)} {f : Str} {D : Ends} (h : EvL te σ H xs) (hi : σ[i]? = some (some (.ref a))) (ha : H a = some (.ins C dx fs)) (hc : Cls K C) (hn : NoAttr K C f) (hl : fs.length < 1000)
    (k : ∀ p H2, H p = none → Ex H H2 → H2 p = some (.lst xs) → D.nx σ (upd H2 a (.ins C dx (putF f (.ref p) fs)))) : sFld K (tVar i) te f D σ H :=
  h H (Ex.refl H) _ fun p H2 hp e2 h1 => ⟨_, hi, a, C, dx, fs, rfl, e2 _ _ ha, hc, hn, hl, k p H2 hp e2 h1⟩
theorem s_fldOs {i : Nat} {C dx : Addr} {fs : List (Str × V)} {f : Str} {D : Ends} {os : List HO} (h : EvOs te σ H os) (hi : σ[i]? = some (some (.ref a))) (ha : H a = some (.ins C dx fs)) (hc : Cls K C) (hn : NoAttr K C f) (hl : fs.length < 1000)
    (k : ∀ (p : Addr) (qs : List Addr) (H2 : Hp), H p = none → Ex H H2 → H2 p = some (.lst (qs.map V.ref)) → ObjsAt H2 qs os → (∀ q ∈ qs, H q = none ∧ q ≠ p) → qs.Nodup → D.nx σ (upd H2 a (.ins C dx (putF f (.ref p) fs)))) : sFld K (tVar i) te f D σ H :=
  h H (Ex.refl H) _ fun p qs H2 hp e2 h1 h2 h3 h4 => ⟨_, hi, a, C, dx, fs, rfl, e2 _ _ ha, hc, hn, hl, k p qs H2 hp e2 h1 h2 h3 h4⟩
/-- xs + ys, ys a list that stands -/
theorem el_catV {p : Addr} (ha : EvL ta σ H xs) (hb : Ev tb σ H (.ref p)) (hp : H p = some (.lst ys)) (hl : xs.length + ys.length ≤ 100000) : EvL (tOp rCat ta tb) σ H (xs ++ ys) := fun H1 e Q q =>
  ha H1 e _ fun d H2 _ e2 h2 => hb H2 (e.trans e2) _ fun H3 e3 => ⟨d, p, xs, ys, rfl, rfl, e3 d _ h2, ((e.trans e2).trans e3) _ _ hp, sz_of hl, fun r hr => q r _ (fresh_back (e2.trans e3) hr) ((e2.trans e3).trans (Ex.new hr)) upd_same⟩
/-- f(e, ..), e told by a predicate, the rest values -/
theorem el_callP {sp : Sp} {E : XK} {tr : TA} {ws : List V} (h : EvP te σ H P) (ht : EvA tr σ H ws) (hr : ∀ v H1 H2, Ex H H1 → P v H1 → Ex H1 H2 → ∀ Q : VK, RetL xs H2 Q → sp (v :: ws) H2 Q E) : EvL (tCall sp [] E (tCons te tr)) σ H xs := fun H1 e Q q =>
  h H1 e _ fun v H2 e2 p => ht H2 (e.trans e2) _ fun H3 e3 => by
    have k := hr v H2 H3 (e.trans e2) p e3 Q fun d H4 hd e4 h4 => q d H4 (fresh_back (e2.trans e3) hd) ((e2.trans e3).trans e4) h4
    show sp ((v :: ws) ++ []) H3 Q E
    rw [List.append_nil]
    exact k
/-- max(m, n) -/
theorem ev_max {i j : Int} (ha : Ev ta σ H (.int i)) (hb : Ev tb σ H (.int j)) : Ev (tCB rMax2 (tCons ta (tCons tb tNil))) σ H (.int (max i j)) := ev_is (ev_max2 ha hb) (congrArg V.int (by omega))
/-- for target in .., nothing known is changed -/
theorem s_forW {tu : TS} {D : Ends} (hw : EvW wi σ H n Y) (Pv : Hp → Nat → L2.St → Hp → Prop) (h0 : ∀ H1, Ex H H1 → Pv H1 0 σ H1) (hG : ∀ H1 i σ' H', Pv H1 i σ' H' → Ex H1 H')
    (hs : ∀ H0 i x σ' H1 H2, Ex H H0 → i < n → Pv H0 i σ' H1 → Y i H1 x H2 → g x σ' H2 fun σ2 H3 => tu { D with nx := Pv H0 (i + 1), ct := Pv H0 (i + 1), bk := D.nx } σ2 H3) (hd : ∀ H0 σ' H', Ex H H0 → Pv H0 n σ' H' → D.nx σ' H') : tFor wi g tu D σ H :=
  hw H (Ex.refl H) _ fun J H0 G e w q => for_it w (Pv H0) (h0 H0 e) (fun i σ' H' _ p => q H' (hG H0 i σ' H' p)) (fun i x σ' H1 H2 hi p yy => hs H0 i x σ' H1 H2 e hi p yy) fun σ' H' p => hd H0 σ' H' e p
theorem q_forW {tu tz : TS} {D : Ends} (hw : EvW wi σ H n Y) (Pv : Hp → Nat → L2.St → Hp → Prop) (h0 : ∀ H1, Ex H H1 → Pv H1 0 σ H1) (hG : ∀ H1 i σ' H', Pv H1 i σ' H' → Ex H1 H')
    (hs : ∀ H0 i x σ' H1 H2, Ex H H0 → i < n → Pv H0 i σ' H1 → Y i H1 x H2 → g x σ' H2 fun σ2 H3 => tu { D with nx := Pv H0 (i + 1), ct := Pv H0 (i + 1), bk := tz D } σ2 H3) (hd : ∀ H0 σ' H', Ex H H0 → Pv H0 n σ' H' → tz D σ' H') : tSeq (tFor wi g tu) tz D σ H :=
  s_forW (D := { D with nx := tz D }) hw Pv h0 hG hs hd
/-- for a, b in zip(xs, ys), ys new; the body may change what it likes but the two -/
theorem q_forZip {tu tz : TS} {D : Ends} (hn : n = min xs.length ys.length) (h1 : Ev ta σ H (.ref a)) (hx : SqL K H a xs) (h2 : EvL tb σ H ys)
    (k : ∀ (b : Addr) (H1 : Hp), Ex H H1 → H b = none → H1 b = some (.lst ys) → ∃ Pv : Nat → L2.St → Hp → Prop, Pv 0 σ H1 ∧ (∀ i σ' H', Pv i σ' H' → SqL K H' a xs ∧ SqL K H' b ys) ∧
      (∀ i x σ' H2 H3, i < n → Pv i σ' H2 → YPair (fun i => xs[i]?) (fun i => ys[i]?) i H2 x H3 → g x σ' H3 fun σ2 H4 => tu { D with nx := Pv (i + 1), ct := Pv (i + 1), bk := tz D } σ2 H4) ∧ (∀ σ' H', Pv n σ' H' → tz D σ' H')) : tSeq (tFor (iZip K (tCons ta (tCons tb tNil))) g tu) tz D σ H :=
  h1 H (Ex.refl H) _ fun H1 e1 => h2 H1 e1 _ fun b H2 nb e2 hb => by
    obtain ⟨Pv, p0, pG, ps, pd⟩ := k b H2 (e1.trans e2) (fresh_back e1 nb) hb
    exact ⟨a, b, xs, ys, rfl, ex_l (e1.trans e2) hx, sq_new hb, for_it (D := { D with nx := tz D }) (walk_zip hn) Pv p0 (fun i σ' H' _ p => pG i σ' H' p) ps pd⟩
end
/-! ### chunks -/
theorem rgC_table {c m : Nat} (hc : 0 < c) (hc2 : c ≤ 32) (hm : m ≤ 64) : RgC 0 ((c * m : Nat) : Int) (c : Int) m := by
  have e : Builtin.Range.rangeSize 0 ((c * m : Nat) : Int) (c : Int) = (m : Int) := by
    rw [rangeSize_pos (by omega) (by omega)]
    have h : ((c * m : Nat) : Int) + (c : Int) - 1 = ((c * m + (c - 1) : Nat) : Int) := by omega
    rw [h, ← Int.natCast_ediv, Nat.mul_add_div hc, Nat.div_eq_of_lt (by omega)]
    rfl
  have b : c * m ≤ 32 * 64 := Nat.mul_le_mul hc2 hm
  refine ⟨by omega, by omega, ?_, e⟩
  unfold Builtin.Range.small
  rw [e]
  generalize c * m = k at b
  simp only [Builtin.Range.rangeFitsLong, Bool.and_eq_true, Bool.or_eq_true, decide_eq_true_eq, beq_iff_eq]
  have h0 : (c : Int) > 0 := by omega
  rw [if_pos h0]
  simp only [Bool.and_eq_true, decide_eq_true_eq]
  omega
end LC
namespace LC
open PySem PySem.Spec PyProof.Rows L2 Evl
open PySem.W (WData Codec)
/-! ### the request -/
section
variable {K : PySem.W.Frag} {H : Hp} {x : V} {xs : List V}
theorem dw_int {i : Int} (h : Dw K H x (.int i)) : x = .int i := by
  cases h
  rfl
theorem dw_list {ns : List Int} (h : Dw K H x (.list (ns.map WData.int))) : ∃ a, x = .ref a ∧ SqL K H a (ns.map V.int) := by
  cases h with
  | lst hs ha =>
    rw [ints_dw ns _ ha] at hs
    exact ⟨_, rfl, hs⟩
theorem dw_cons {d : WData} {ds : List WData} (h : DwAll K H xs (d :: ds)) : ∃ x r, xs = x :: r ∧ Dw K H x d ∧ DwAll K H r ds := by
  cases h with
  | cons h1 h2 => exact ⟨_, _, rfl, h1, h2⟩
theorem dw_nil (h : DwAll K H xs []) : xs = [] := by
  cases h
  rfl
/-- the answer: a new list of whole numbers -/
theorem dw_ans {ns : List Int} {p : Addr} {H' : Hp} (h : H' p = some (.lst (ns.map V.int))) : Dw K H' (.ref p) (.list (ns.map WData.int)) := .lst (L2.SqL.of h) (L2.dw_ints _)
/-- a whole number of 32 bits -/
def u32 (n : Int) : Prop := 0 ≤ n ∧ n ≤ 4294967295
theorem u32_of {n : Int} (h : Codec.inInt 0 4294967295 n = true) : u32 n := Codec.inInt_iff.mp h
/-- a list of such -/
def u32s (most : Nat) (ns : List Int) : Prop := ns.length ≤ most ∧ ∀ n ∈ ns, u32 n
theorem u32s_of {most : Nat} {ns : List Int} (h : (Codec.inLen 0 most ns && ns.all (Codec.inInt 0 4294967295)) = true) : u32s most ns := by
  rw [Bool.and_eq_true] at h
  exact ⟨(Codec.inNat_iff.mp h.1).2, fun n hn => u32_of (List.all_eq_true.mp h.2 n hn)⟩
end
end LC
set_option Elab.async false
set_option maxRecDepth 100000
set_option maxHeartbeats 2000000
namespace LC
open PySem PySem.Spec PyProof.Rows L2 Evl
/-- the i-th statement of the program's text -/
def top (i : Nat) : Stmt := PySem.Challenge.pw_lightcurves_s10_asymmetry.main.body.getD i (.Pass ⟨0, 0, 0, 0⟩)
section
variable {P : Program} {w : World} {K : PySem.W.Frag} {mg : Str → Option Value} {base : Heap}
/-! ### signed -/
abbrev sSigned : Stmt := top 3
theorem scSigned : FnScope ["number"] ["number"] (defScope sSigned) := ⟨rfl, rfl, rfl, by decide +kernel, rfl, by decide +kernel, by decide +kernel⟩
def spSigned : Sp := fun vs H Q _ => ∃ n : Int, vs = [.int n] ∧ RetV (.int (sg n)) H Q
theorem ok_signed {f : Addr} {fd : FuncData} (F : Fun K "signed" "signed" sSigned f fd) (gS : GI mg "SMALL" 4294967296) : FnOk P w K mg base CX0 1 f fd ["number"] spSigned := by
  refine F.ok scSigned (fun vs H Q E h => ?_) (fun cdv A outer s H vs Q E hr h => ?_)
  · obtain ⟨n, rfl, _⟩ := h
    rfl
  · obtain ⟨n, rfl, k⟩ := h
    refine ⟨_, pss_one (ps_ret (pe_ifExp (pt_cmpR op_ge (pv 0) (pe_op op_fdiv (pe_gi rfl gS) pe_int) (nomark _)) (pe_op op_sub (pv 0) (pe_gi rfl gS)) (pv 0))), ?_⟩
    refine s_ret (v := .int (sg n)) (ev_if (et_test (ev_op (ev_var rfl) (ev_op ev_c ev_c (rv_I ⟨by decide, by decide⟩)) rv_I0)) (fun c => ?_) (fun c => ?_)) k
    · have c' : (4294967296 / 2 : Int) ≤ n := of_decide_eq_true c
      exact ev_is (ev_op (ev_var rfl) ev_c rv_I0) (congrArg V.int (by unfold sg; rw [if_pos (by omega)]))
    · have c' : ¬ (4294967296 / 2 : Int) ≤ n := of_decide_eq_false c
      exact ev_is (ev_var rfl) (congrArg V.int (by unfold sg; rw [if_neg (by omega)]))
/-! ### signed_list -/
abbrev sSignedList : Stmt := top 14
theorem scSignedList : FnScope ["numbers", "number"] ["numbers"] (defScope sSignedList) := ⟨rfl, rfl, rfl, by decide +kernel, rfl, by decide +kernel, by decide +kernel⟩
def spSignedList (K : PySem.W.Frag) : Sp := fun vs H Q _ => ∃ (a : Addr) (ns : List Int), vs = [.ref a] ∧ SqL K H a (ns.map V.int) ∧ ns.length ≤ 40000 ∧ RetL ((ns.map sg).map V.int) H Q
theorem ok_signed_list {f fS : Addr} {fd fdS : FuncData} (F : Fun K "signed_list" "signed_list" sSignedList f fd) (FS : Fun K "signed" "signed" sSigned fS fdS) (bS : Binds K fdS ["number"] []) (mS : mg "signed" = some (.ref fS)) (gS : GI mg "SMALL" 4294967296) : FnOk P w K mg base CX0 2 f fd ["numbers"] (spSignedList K) := by
  have GS : FnOk P w K mg base CX0 1 fS fdS ["number"] spSigned := ok_signed FS gS
  refine F.ok scSignedList (fun vs H Q E h => ?_) (fun cdv A outer s H vs Q E hr h => ?_)
  · obtain ⟨a, ns, rfl, _⟩ := h
    rfl
  · obtain ⟨a, ns, rfl, hS, hl, k⟩ := h
    refine ⟨_, pss_one (ps_ret (pe_lc (own := [("number", 1)]) (g := gName 1) (tt := tYes) rfl scSignedList.nd (pi_list (pv 0)) (blkOk_by (own := [("number", 1)]) (N := ["numbers", "number"]) (sc := defScope sSignedList) (by decide +kernel))
      (fun _ _ _ _ _ => pg_name (i := 1) scSignedList.nd rfl (Or.inl rfl)) (fun _ _ _ _ _ => pts_nil) (fun _ _ _ _ _ => pe_call GS hr (by rfl) mS FS.kp bS .nil pass0 (pa_cons (pv 1) pa_nil)))), ?_⟩
    exact s_retL (el_ints sg (ev_var rfl) hS hl (fun _ => rfl) fun n H1 e _ => ev_callA (ea_cons (ev_var rfl) ea_nil) fun H2 e2 Q q => ⟨n, rfl, q⟩) k
/-! ### great_told -/
abbrev sGreatTold : Stmt := top 4
theorem scGreatTold : FnScope ["numbers", "number"] ["numbers"] (defScope sGreatTold) := ⟨rfl, rfl, rfl, by decide +kernel, rfl, by decide +kernel, by decide +kernel⟩
def spGreatTold (K : PySem.W.Frag) : Sp := fun vs H Q _ => ∃ (a : Addr) (ns : List Int), vs = [.ref a] ∧ SqL K H a (ns.map V.int) ∧ ns.length ≤ 40000 ∧ RetL ((ns.map fun z => z % 18446744073709551616).map V.int) H Q
theorem ok_great_told {f : Addr} {fd : FuncData} (F : Fun K "great_told" "great_told" sGreatTold f fd) (gG : GI mg "GREAT" 18446744073709551616) : FnOk P w K mg base CX0 1 f fd ["numbers"] (spGreatTold K) := by
  refine F.ok scGreatTold (fun vs H Q E h => ?_) (fun cdv A outer s H vs Q E hr h => ?_)
  · obtain ⟨a, ns, rfl, _⟩ := h
    rfl
  · obtain ⟨a, ns, rfl, hS, hl, k⟩ := h
    refine ⟨_, pss_one (ps_ret (pe_lc (own := [("number", 1)]) (g := gName 1) (tt := tYes) rfl scGreatTold.nd (pi_list (pv 0)) (blkOk_by (own := [("number", 1)]) (N := ["numbers", "number"]) (sc := defScope sGreatTold) (by decide +kernel))
      (fun _ _ _ _ _ => pg_name (i := 1) scGreatTold.nd rfl (Or.inl rfl)) (fun _ _ _ _ _ => pts_nil) (fun _ _ _ _ _ => pe_op op_mod (pv 1) (pe_gi rfl gG)))), ?_⟩
    exact s_retL (el_ints (fun z => z % 18446744073709551616) (ev_var rfl) hS hl (fun _ => rfl) fun n H1 e _ => ev_op (ev_var rfl) ev_c (rv_I (by decide))) k
/-! ### partner_of and asymmetry_of -/
abbrev sPartner : Stmt := top 6
theorem scPartner : FnScope ["times", "place", "middle", "tolerance", "due", "at", "time"] ["times", "place", "middle", "tolerance"] (defScope sPartner) := ⟨rfl, rfl, rfl, by decide +kernel, rfl, by decide +kernel, by decide +kernel⟩
/-- the partner's place in a list; none if there is none -/
def partI (ts : List Int) (mid tol : Int) (i : Nat) : List Int := match partAt (2 * mid - Sh70.intAt ts i) tol ts 0 with
  | none => []
  | some j => [(j : Int)]
def spPartner (K : PySem.W.Frag) : Sp := fun vs H Q _ => ∃ (a : Addr) (ts : List Int) (i : Nat) (mid tol : Int), vs = [.ref a, .int (i : Int), .int mid, .int tol] ∧ SqL K H a (ts.map V.int) ∧ ts.length ≤ 2200 ∧ i < ts.length ∧ RetL ((partI ts mid tol i).map V.int) H Q
theorem part_drop {d tol : Int} {ts : List Int} {i : Nat} {y : Int} (h : ts[i]? = some y) : partAt d tol (ts.drop i) i = if (if y - d < 0 then -(y - d) else y - d) ≤ tol then some i else partAt d tol (ts.drop (i + 1)) (i + 1) := by
  obtain ⟨hi, e⟩ := List.getElem?_eq_some_iff.mp h
  rw [List.drop_eq_getElem_cons hi, e]
  rfl
theorem ok_partner {f : Addr} {fd : FuncData} (F : Fun K "partner_of" "partner_of" sPartner f fd) (ze : mg "enumerate" = none) (zb : mg "abs" = none) : FnOk P w K mg base CX0 1 f fd ["times", "place", "middle", "tolerance"] (spPartner K) := by
  refine F.ok scPartner (fun vs H Q E h => ?_) (fun cdv A outer s H vs Q E hr h => ?_)
  · obtain ⟨a, ts, i, mid, tol, rfl, _⟩ := h
    rfl
  · obtain ⟨a, ts, p, mid, tol, rfl, hS, hl, hp, k⟩ := h
    refine ⟨_, pss_cons (ps_set (i := 4) scPartner.nd rfl (Or.inl rfl) (pe_op op_sub (pe_op op_mul pe_int (pv 2)) (pe_ix ix_list (pv 0) (pv 1) (fun _ _ => rfl))))
      (pss_cons (ps_for PassesOwn.never rfl (pi_enum (by rfl) ze (pa_cons (pv 0) pa_nil)) (pg_tup rfl (pgs_cons (pg_name (i := 5) scPartner.nd rfl (Or.inl rfl)) (pgs_cons (pg_name (i := 6) scPartner.nd rfl (Or.inl rfl)) pgs_nil)))
        (pss_one (ps_if (pt_cmpR op_le (pe_callB call_abs (by rfl) zb boot_abs (pa_cons (pe_op op_sub (pv 6) (pv 4)) pa_nil)) (pv 3) (nomark _)) (pss_one (ps_ret (pe_lst (pa_cons (pv 5) pa_nil)))) pss_nil)))
      (pss_one (ps_ret (pe_lst pa_nil)))), ?_⟩
    refine q_asg (v := .int (2 * mid - Sh70.intAt ts p)) (ev_op (ev_op ev_c (ev_var rfl) (rv_I (.inl ⟨by decide, by decide⟩))) (ev_op (ev_var rfl) (ev_var rfl) (rv_ixL (v := .int (Sh70.intAt ts p)) hS (atI_nat (by rw [List.getElem?_map, intAt_get hp]; rfl)))) rv_I0) fun H1 e1 => ?_
    have hS1 := ex_l e1 hS
    unfold partI at k
    generalize 2 * mid - Sh70.intAt ts p = d at k ⊢
    refine q_forW (n := (ts.map V.int).length) (ew_enum (K := K) (ea_cons (ev_var rfl) ea_nil) hS1) (fun H0 i σ' H' => ∃ y5 y6 : Option V, σ' = [some (.ref a), some (.int (p : Int)), some (.int mid), some (.int tol), some (.int d), y5, y6] ∧ Ex H0 H' ∧ partAt d tol ts 0 = partAt d tol (ts.drop i) i)
      (fun H2 e2 => ⟨none, none, rfl, Ex.refl _, rfl⟩) (fun H0 i σ' H' ⟨_, _, _, e, _⟩ => e) (fun H0 i y σ' H2 H3 e0 hi hp yy => ?_) (fun H0 σ' H' e0 hp => ?_)
    · obtain ⟨y5, y6, rfl, e2, hpt⟩ := hp
      obtain ⟨U, u, v, rfl, nU, rfl, hu, hv⟩ := yy
      cases hu
      obtain ⟨n, hn, rfl⟩ := map_get hv
      have e3 : Ex H2 (upd H2 U (.tup [V.int (i : Int), V.int n])) := Ex.new nU
      refine ⟨U, [V.int (i : Int), V.int n], rfl, .inl (.inl upd_same), rfl, _, _, rfl, _, _, rfl, rfl, ?_⟩
      rw [part_drop hn] at hpt
      refine s_when (et_test (ev_op (ev_abs (ev_op (ev_var rfl) (ev_var rfl) rv_I0)) (ev_var rfl) rv_I0)) (fun c H4 e4 => ?_) (fun c H4 e4 => ?_)
      · rw [if_pos (of_decide_eq_true c)] at hpt
        rw [hpt] at k
        exact s_retL (el_lst (ea_cons (ev_var rfl) ea_nil) small) (retL_mono k ((((e1.trans e0).trans e2).trans e3).trans e4))
      · rw [if_neg (of_decide_eq_false c)] at hpt
        exact ⟨_, _, rfl, (e2.trans e3).trans e4, hpt⟩
    · obtain ⟨y5, y6, rfl, e2, hpt⟩ := hp
      rw [List.length_map, List.drop_length] at hpt
      rw [hpt] at k
      exact s_retL (el_lst ea_nil small) (retL_mono k ((e1.trans e0).trans e2))
abbrev sAsymOf : Stmt := top 7
theorem scAsymOf : FnScope ["times", "magnitudes", "middle", "tolerance", "found", "place", "time", "at"] ["times", "magnitudes", "middle", "tolerance"] (defScope sAsymOf) := ⟨rfl, rfl, rfl, by decide +kernel, rfl, by decide +kernel, by decide +kernel⟩
def spAsymOf (K : PySem.W.Frag) : Sp := fun vs H Q _ => ∃ (a b : Addr) (ts ms : List Int) (mid tol : Int), vs = [.ref a, .ref b, .int mid, .int tol] ∧ SqL K H a (ts.map V.int) ∧ SqL K H b (ms.map V.int) ∧ ts.length ≤ 2200 ∧ ts.length = ms.length ∧ RetV (.int (asymTo ts ms mid tol ts.length)) H Q
theorem ok_asym_of {f fP : Addr} {fd fdP : FuncData} (F : Fun K "asymmetry_of" "asymmetry_of" sAsymOf f fd) (FP : Fun K "partner_of" "partner_of" sPartner fP fdP) (bP : Binds K fdP ["times", "place", "middle", "tolerance"] []) (mP : mg "partner_of" = some (.ref fP)) (ze : mg "enumerate" = none) (zb : mg "abs" = none) : FnOk P w K mg base CX0 2 f fd ["times", "magnitudes", "middle", "tolerance"] (spAsymOf K) := by
  have GP : FnOk P w K mg base CX0 1 fP fdP ["times", "place", "middle", "tolerance"] (spPartner K) := ok_partner FP ze zb
  refine F.ok scAsymOf (fun vs H Q E h => ?_) (fun cdv A outer s H vs Q E hr h => ?_)
  · obtain ⟨a, b, ts, ms, mid, tol, rfl, _⟩ := h
    rfl
  · obtain ⟨a, b, ts, ms, mid, tol, rfl, hA, hB, hl, hlm, k⟩ := h
    refine ⟨_, pss_cons (ps_set (i := 4) scAsymOf.nd rfl (Or.inl rfl) pe_int)
      (pss_cons (ps_for PassesOwn.never rfl (pi_enum (by rfl) ze (pa_cons (pv 0) pa_nil)) (pg_tup rfl (pgs_cons (pg_name (i := 5) scAsymOf.nd rfl (Or.inl rfl)) (pgs_cons (pg_name (i := 6) scAsymOf.nd rfl (Or.inl rfl)) pgs_nil)))
        (pss_one (ps_if (pt_cmpR op_lt (pv 6) (pv 2) (nomark _)) (pss_one (ps_for PassesOwn.never rfl (pi_list (pe_call GP hr (by rfl) mP FP.kp bP .nil pass0 (pa_cons (pv 0) (pa_cons (pv 5) (pa_cons (pv 2) (pa_cons (pv 3) pa_nil)))))) (pg_name (i := 7) scAsymOf.nd rfl (Or.inl rfl))
          (pss_one (ps_set (i := 4) scAsymOf.nd rfl (Or.inl rfl) (pe_op op_add (pv 4) (pe_callB call_abs (by rfl) zb boot_abs (pa_cons (pe_op op_sub (pe_ix ix_list (pv 1) (pv 5) (fun _ _ => rfl)) (pe_ix ix_list (pv 1) (pv 7) (fun _ _ => rfl))) pa_nil))))))) pss_nil)))
      (pss_one (ps_ret (pv 4)))), ?_⟩
    refine q_asg (v := .int 0) ev_c fun H1 e1 => ?_
    have hA1 := ex_l e1 hA
    have hB1 := ex_l e1 hB
    refine q_forW (n := (ts.map V.int).length) (ew_enum (K := K) (ea_cons (ev_var rfl) ea_nil) hA1) (fun H0 i σ' H' => ∃ y5 y6 y7 : Option V, σ' = [some (.ref a), some (.ref b), some (.int mid), some (.int tol), some (.int (asymTo ts ms mid tol i)), y5, y6, y7] ∧ Ex H0 H')
      (fun H2 e2 => ⟨none, none, none, rfl, Ex.refl _⟩) (fun H0 i σ' H' ⟨_, _, _, _, e⟩ => e) (fun H0 i y σ' H2 H3 e0 hi hp yy => ?_) (fun H0 σ' H' e0 hp => ?_)
    · obtain ⟨y5, y6, y7, rfl, e2⟩ := hp
      obtain ⟨U, u, v, rfl, nU, rfl, hu, hv⟩ := yy
      cases hu
      obtain ⟨n, hn, rfl⟩ := map_get hv
      rw [List.length_map] at hi
      have e3 : Ex H2 (upd H2 U (.tup [V.int (i : Int), V.int n])) := Ex.new nU
      refine ⟨U, [V.int (i : Int), V.int n], rfl, .inl (.inl upd_same), rfl, _, _, rfl, _, _, rfl, rfl, ?_⟩
      have hn' : Sh70.intAt ts i = n := getD_some hn
      rw [asym_more]
      refine s_when (et_test (ev_op (ev_var rfl) (ev_var rfl) rv_I0)) (fun c H4 e4 => ?_) (fun c H4 e4 => ?_)
      · have c2 : Sh70.intAt ts i < mid := by rw [hn']; exact of_decide_eq_true c
        have hB4 := ex_l (((e0.trans e2).trans e3).trans e4) hB1
        have hA4 := ex_l (((e0.trans e2).trans e3).trans e4) hA1
        refine s_forW (n := ((partI ts mid tol i).map V.int).length) (ew_listL (K := K) (el_callA (xs := (partI ts mid tol i).map V.int) (ea_cons (ev_var rfl) (ea_cons (ev_var rfl) (ea_cons (ev_var rfl) (ea_cons (ev_var rfl) ea_nil)))) fun H5 e5 Q5 q5 => ⟨a, ts, i, mid, tol, rfl, ex_l e5 hA4, hl, hi, q5⟩))
          (fun H0 j σ' H' => ∃ y7 : Option V, σ' = [some (.ref a), some (.ref b), some (.int mid), some (.int tol), some (.int (asymTo ts ms mid tol i + if j = 0 then 0 else asymOf ts ms mid tol i)), some (.int (i : Int)), some (.int n), y7] ∧ Ex H0 H')
          (fun H5 e5 => ⟨y7, by rw [if_pos rfl, Int.add_zero]; rfl, Ex.refl _⟩) (fun H0 j σ' H' ⟨_, _, e⟩ => e) (fun H5 j y σ' H6 H7 e5 hj hp yy => ?_) (fun H5 σ' H' e5 hp => ?_)
        · obtain ⟨y8, rfl, e6⟩ := hp
          obtain ⟨rfl, hy⟩ := yy
          obtain ⟨z, hz, rfl⟩ := map_get hy
          have e0' : asymOf ts ms mid tol i = (match partAt (2 * mid - Sh70.intAt ts i) tol ts 0 with
            | none => 0
            | some j => pair_abs (Sh70.intAt ms i) (Sh70.intAt ms j)) := if_pos c2
          unfold partI at hz hj
          cases hq : partAt (2 * mid - Sh70.intAt ts i) tol ts 0 with
          | none =>
            rw [hq] at hz
            cases hz
          | some m =>
            rw [hq] at hz hj e0'
            have hm := part_lt hq
            have j0 : j = 0 := by
              have h1 : j < ([(m : Int)].map V.int).length := hj
              have h2 : ([(m : Int)].map V.int).length = 1 := rfl
              omega
            subst j0
            have ez : (m : Int) = z := Option.some.inj hz
            subst ez
            refine s_asg (v := .int (asymTo ts ms mid tol i + if 0 + 1 = 0 then 0 else asymOf ts ms mid tol i)) (ev_is (ev_op (ev_var rfl) (ev_abs (ev_op (ev_op (ev_var rfl) (ev_var rfl) (rv_ixL (v := .int (Sh70.intAt ms i)) (ex_l (e5.trans e6) hB4) (atI_nat (by rw [List.getElem?_map, intAt_get (by omega)]; rfl)))) (ev_op (ev_var rfl) (ev_var rfl) (rv_ixL (v := .int (Sh70.intAt ms m)) (ex_l (e5.trans e6) hB4) (atI_nat (by rw [List.getElem?_map, intAt_get (by omega)]; rfl)))) rv_I0)) rv_I0) (congrArg V.int ?_)) fun H8 e8 => ?_
            · rw [if_pos (show (0 : Nat) = 0 from rfl), if_neg (show ¬ 0 + 1 = 0 by decide), e0', Int.add_zero]
              show _ = asymTo ts ms mid tol i + pair_abs (Sh70.intAt ms i) (Sh70.intAt ms m)
              unfold pair_abs
              congr 1
              split <;> omega
            · exact ⟨_, rfl, e6.trans e8⟩
        · obtain ⟨y8, rfl, e6⟩ := hp
          refine ⟨some (.int (i : Int)), some (.int n), y8, ?_, (((e2.trans e3).trans e4).trans e5).trans e6⟩
          have ev : (if ((partI ts mid tol i).map V.int).length = 0 then 0 else asymOf ts ms mid tol i) = asymOf ts ms mid tol i := by
            unfold partI asymOf
            rw [if_pos c2]
            cases partAt (2 * mid - Sh70.intAt ts i) tol ts 0 with
            | none => rfl
            | some m => rfl
          rw [ev]
      · have c2 : ¬ Sh70.intAt ts i < mid := by rw [hn']; exact of_decide_eq_false c
        have ez : asymOf ts ms mid tol i = 0 := if_neg c2
        rw [ez, Int.add_zero]
        exact ⟨_, _, _, rfl, (e2.trans e3).trans e4⟩
    · obtain ⟨y5, y6, y7, rfl, e2⟩ := hp
      rw [List.length_map]
      exact s_ret (ev_var rfl) (retV_mono k ((e1.trans e0).trans e2))
/-! ### are_magnitudes -/
abbrev sAreMag : Stmt := top 13
theorem scAreMag : FnScope ["numbers", "number"] ["numbers"] (defScope sAreMag) := ⟨rfl, rfl, rfl, by decide +kernel, rfl, by decide +kernel, by decide +kernel⟩
def spAreMag (K : PySem.W.Frag) : Sp := fun vs H Q _ => ∃ (a : Addr) (ns : List Int), vs = [.ref a] ∧ SqL K H a (ns.map V.int) ∧ ns.length ≤ 40000 ∧ RetV (.bl (Sh70.areValidMagnitudes ns)) H Q
theorem ok_are_mag {f : Addr} {fd : FuncData} (F : Fun K "are_magnitudes" "are_magnitudes" sAreMag f fd) (gM : GI mg "MOST_MAGNITUDE" 99999) (za : mg "all" = none) (zb : mg "abs" = none) : FnOk P w K mg base CX0 1 f fd ["numbers"] (spAreMag K) := by
  refine F.ok scAreMag (fun vs H Q E h => ?_) (fun cdv A outer s H vs Q E hr h => ?_)
  · obtain ⟨a, ns, rfl, _⟩ := h
    rfl
  · obtain ⟨a, ns, rfl, hS, hl, k⟩ := h
    refine ⟨_, pss_one (ps_ret (pe_callB (cr_all rfl) (by rfl) za boot_all (pa_cons (pe_lc (own := [("number", 1)]) (g := gName 1) (tt := tYes) rfl scAreMag.nd (pi_list (pv 0)) (blkOk_by (own := [("number", 1)]) (N := ["numbers", "number"]) (sc := defScope sAreMag) (by decide +kernel))
      (fun _ _ _ _ _ => pg_name (i := 1) scAreMag.nd rfl (Or.inl rfl)) (fun _ _ _ _ _ => pts_nil) (fun _ _ _ _ _ => pe_cmpR op_le (pe_callB call_abs (by rfl) zb boot_abs (pa_cons (pv 1) pa_nil)) (pe_gi rfl gM) (nomark _))) pa_nil))), ?_⟩
    have e : (ns.map magOk).all id = Sh70.areValidMagnitudes ns := by
      rw [List.all_map]
      exact mags_are ns
    rw [← e] at k
    refine s_ret (ev_allN ?_) k
    have z := el_vals (K := K) (tl := tVar 0) (vs := [1]) (j := 1) (σ := start ["numbers", "number"] [V.ref a]) (fun n => V.bl (magOk n)) (ev_var rfl) hS hl (fun _ => rfl) fun n H1 e _ => ev_op (ev_abs (ev_var (i := 1) rfl)) (ev_c (v := .int 99999)) (rv_I0 (g := fun i j => .bl (decide (i ≤ j))))
    rw [List.map_map]
    exact z
/-! ### asymmetry -/
abbrev sAsym : Stmt := top 15
theorem scAsym : FnScope ["tolerance", "time", "times", "magnitudes", "values"] ["tolerance", "time", "times", "magnitudes"] (defScope sAsym) := ⟨rfl, rfl, rfl, by decide +kernel, rfl, by decide +kernel, by decide +kernel⟩
def spAsym (K : PySem.W.Frag) : Sp := fun vs H Q _ => ∃ (tol time : Int) (b a : Addr) (ts ns : List Int), vs = [.int tol, .int time, .ref b, .ref a] ∧ SqL K H b (ts.map V.int) ∧ SqL K H a (ns.map V.int) ∧ u32 tol ∧ u32 time ∧ u32s 1100 ts ∧ u32s 1100 ns ∧ (decide ((ts.length : Int) ≤ 1024) = true → ts.length = ns.length) ∧ RetL ((PySh70.asymmetry tol time ts ns).map V.int) H Q
theorem ok_asym {f fL fA fX fP : Addr} {fd fdL fdA fdX fdP : FuncData} (F : Fun K "asymmetry" "asymmetry" sAsym f fd)
    (GL : FnOk P w K mg base CX0 2 fL fdL ["numbers"] (spSignedList K)) (kL : PySem.W.keepIn K (.ref fL) = true) (bL : Binds K fdL ["numbers"] []) (mL : mg "signed_list" = some (.ref fL))
    (GA : FnOk P w K mg base CX0 1 fA fdA ["numbers"] (spAreMag K)) (kA : PySem.W.keepIn K (.ref fA) = true) (bA : Binds K fdA ["numbers"] []) (mA : mg "are_magnitudes" = some (.ref fA))
    (GX : FnOk P w K mg base CX0 2 fX fdX ["times", "magnitudes", "middle", "tolerance"] (spAsymOf K)) (kX : PySem.W.keepIn K (.ref fX) = true) (bX : Binds K fdX ["times", "magnitudes", "middle", "tolerance"] []) (mX : mg "asymmetry_of" = some (.ref fX))
    (GP : FnOk P w K mg base CX0 1 fP fdP ["numbers"] (spGreatTold K)) (kP : PySem.W.keepIn K (.ref fP) = true) (bP : Binds K fdP ["numbers"] []) (mP : mg "great_told" = some (.ref fP))
    (gO : GI mg "OUT_OF_RANGE" (-2)) (gB : GI mg "BAD_MAGNITUDE" (-3)) (gT : GI mg "MOST_TIMES" 1024) (zl : mg "len" = none) : FnOk P w K mg base CX0 3 f fd ["tolerance", "time", "times", "magnitudes"] (spAsym K) := by
  refine F.ok scAsym (fun vs H Q E h => ?_) (fun cdv A outer s H vs Q E hr h => ?_)
  · obtain ⟨tol, time, b, a, ts, ns, rfl, _⟩ := h
    rfl
  · obtain ⟨tol, time, b, a, ts, ns, rfl, hB, hS, htol, htime, hts, hn, hlen, k⟩ := h
    have hr1 : Room 1 _ := hr.mono (by decide)
    refine ⟨_, pss_cons (ps_if (pt_cmpR op_gt (pe_callB call_len_seq (by rfl) zl PySem.boot_len (pa_cons (pv 2) pa_nil)) (pe_gi rfl gT) (nomark _)) (pss_one (ps_ret (pe_lst (pa_cons (pe_gi rfl gO) pa_nil)))) pss_nil)
      (pss_cons (ps_set (i := 4) scAsym.nd rfl (Or.inl rfl) (pe_call GL hr (by rfl) mL kL bL .nil pass0 (pa_cons (pv 3) pa_nil)))
      (pss_cons (ps_if (pt_not (pt_val (pe_call GA hr1 (by rfl) mA kA bA .nil pass0 (pa_cons (pv 4) pa_nil)))) (pss_one (ps_ret (pe_lst (pa_cons (pe_gi rfl gB) pa_nil)))) pss_nil)
      (pss_one (ps_ret (pe_op op_cat (pe_lst (pa_cons pe_int pa_nil)) (pe_call GP hr1 (by rfl) mP kP bP .nil pass0 (pa_cons (pe_lst (pa_cons (pe_call GX hr (by rfl) mX kX bX .nil pass0 (pa_cons (pv 2) (pa_cons (pv 4) (pa_cons (pv 1) (pa_cons (pv 0) pa_nil))))) pa_nil)) pa_nil))))))), ?_⟩
    have hn0 : ∀ n ∈ ns, 0 ≤ n := fun n h => (hn.2 n h).1
    have ht0 : ∀ n ∈ ts, 0 ≤ n := fun n h => (hts.2 n h).1
    have hl : ns.length ≤ 1100 := hn.1
    have htl : ts.length ≤ 1100 := hts.1
    refine q_when (et_test (b := decide (1024 < (ts.length : Int))) (ev_op (ev_is (ev_len (ev_var rfl) hB) (by rw [List.length_map])) ev_c rv_I0)) (fun c0 H1 e1 => ?_) (fun c0 H1 e1 => ?_)
    · have c1 : decide ((ts.length : Int) ≤ 1024) = false := decide_eq_false (by have := of_decide_eq_true c0; omega)
      rw [asym_bad c1] at k
      exact s_retL (el_lst (ea_cons ev_c ea_nil) small) (retL_mono k e1)
    have c1 : decide ((ts.length : Int) ≤ 1024) = true := decide_eq_true (by have := of_decide_eq_false c0; omega)
    have hlm := hlen c1
    refine q_asgL (el_callA (xs := (ns.map sg).map V.int) (ea_cons (ev_var rfl) ea_nil) fun H2 e2 Q2 q2 => ⟨a, ns, rfl, ex_l (e1.trans e2) hS, by omega, q2⟩) fun v H2 _ e2 hv => ?_
    refine q_when (et_not (et_B (b := Sh70.areValidMagnitudes (ns.map sg)) (ev_callA (ea_cons (ev_var rfl) ea_nil) fun H3 e3 Q3 q3 => ⟨v, ns.map sg, rfl, sq_new (e3 _ _ hv), by rw [List.length_map]; omega, q3⟩))) (fun c2 H3 e3 => ?_) (fun c2 H3 e3 => ?_)
    · rw [asym_mag hn0 c1 (nt c2)] at k
      exact s_retL (el_lst (ea_cons ev_c ea_nil) small) (retL_mono k ((e1.trans e2).trans e3))
    rw [asym_ok htol.1 htime.1 ht0 hn0 hlm c1 (nf c2)] at k
    refine s_retL (xs := ([0] : List Int).map V.int ++ (([asymTo ts (ns.map sg) time tol ts.length] : List Int).map fun z => z % 18446744073709551616).map V.int) (el_cat (el_lst (ea_cons ev_c ea_nil) small) (el_callL (xs := ([asymTo ts (ns.map sg) time tol ts.length] : List Int).map V.int) (el_lst (ea_cons (ev_callA (ea_cons (ev_var rfl) (ea_cons (ev_var rfl) (ea_cons (ev_var rfl) (ea_cons (ev_var rfl) ea_nil)))) fun H4 e4 Q4 q4 => ⟨b, v, ts, ns.map sg, time, tol, rfl, ex_l (((e1.trans e2).trans e3).trans e4) hB, sq_new ((e3.trans e4) _ _ hv), by omega, by rw [List.length_map]; exact hlm, q4⟩) ea_nil) small) fun d H6 e6 hd Q6 q6 => ⟨d, [asymTo ts (ns.map sg) time tol ts.length], rfl, sq_new hd, small, q6⟩) small) ?_
    rw [← List.map_append]
    exact retL_mono k ((e1.trans e2).trans e3)
end
/-! ### what the top has written: every address a letter -/
theorem all_mk {P : Program} {w : World} {K : PySem.W.Frag} {h : Heap} {mg : Str → Option Value} {fa f0 f1 f2 f3 f4 f5 f6 : Addr} (X : K.In h) (G : h.Ns mainGlobals mg) (hfa : mg "asymmetry" = some (.ref fa))
    {od0 an0 od1 an1 od2 an2 od3 an3 od4 an4 od5 an5 od6 an6 : Option Addr} {sl0 sl1 sl2 sl3 sl4 sl5 sl6 : Array (Option Value)} {oc0 kV0 dc0 pm0 ct0 cd0 oc1 kV1 dc1 pm1 ct1 cd1 oc2 kV2 dc2 pm2 ct2 cd2 oc3 kV3 dc3 pm3 ct3 cd3 oc4 kV4 dc4 pm4 ct4 cd4 oc5 kV5 dc5 pm5 ct5 cd5 oc6 kV6 dc6 pm6 ct6 cd6 : Value} {t_SMALL t_GREAT t_OUT_OF_RANGE t_BAD_MAGNITUDE t_MOST_TIMES t_MOST_MAGNITUDE : Tok}
    (a0 : PySem.W.nsIn K mainGlobals "signed" = some (some (.ref f0)))
    (l0 : K.lookup f0 = some ⟨oc0, od0, .func (PySem.W.fnOf "signed" "signed" (defArgs sSigned) (defBody sSigned) (defScope sSigned) .none kV0 dc0 pm0 an0 cd0 ct0), sl0⟩)
    (c0 : PySem.W.codeIn K cd0 "signed" = true)
    (k0 : PySem.W.keepIn K (.ref f0) = true)
    (a1 : PySem.W.nsIn K mainGlobals "great_told" = some (some (.ref f1)))
    (l1 : K.lookup f1 = some ⟨oc1, od1, .func (PySem.W.fnOf "great_told" "great_told" (defArgs sGreatTold) (defBody sGreatTold) (defScope sGreatTold) .none kV1 dc1 pm1 an1 cd1 ct1), sl1⟩)
    (c1 : PySem.W.codeIn K cd1 "great_told" = true)
    (k1 : PySem.W.keepIn K (.ref f1) = true)
    (a2 : PySem.W.nsIn K mainGlobals "partner_of" = some (some (.ref f2)))
    (l2 : K.lookup f2 = some ⟨oc2, od2, .func (PySem.W.fnOf "partner_of" "partner_of" (defArgs sPartner) (defBody sPartner) (defScope sPartner) .none kV2 dc2 pm2 an2 cd2 ct2), sl2⟩)
    (c2 : PySem.W.codeIn K cd2 "partner_of" = true)
    (k2 : PySem.W.keepIn K (.ref f2) = true)
    (a3 : PySem.W.nsIn K mainGlobals "asymmetry_of" = some (some (.ref f3)))
    (l3 : K.lookup f3 = some ⟨oc3, od3, .func (PySem.W.fnOf "asymmetry_of" "asymmetry_of" (defArgs sAsymOf) (defBody sAsymOf) (defScope sAsymOf) .none kV3 dc3 pm3 an3 cd3 ct3), sl3⟩)
    (c3 : PySem.W.codeIn K cd3 "asymmetry_of" = true)
    (k3 : PySem.W.keepIn K (.ref f3) = true)
    (a4 : PySem.W.nsIn K mainGlobals "are_magnitudes" = some (some (.ref f4)))
    (l4 : K.lookup f4 = some ⟨oc4, od4, .func (PySem.W.fnOf "are_magnitudes" "are_magnitudes" (defArgs sAreMag) (defBody sAreMag) (defScope sAreMag) .none kV4 dc4 pm4 an4 cd4 ct4), sl4⟩)
    (c4 : PySem.W.codeIn K cd4 "are_magnitudes" = true)
    (k4 : PySem.W.keepIn K (.ref f4) = true)
    (a5 : PySem.W.nsIn K mainGlobals "signed_list" = some (some (.ref f5)))
    (l5 : K.lookup f5 = some ⟨oc5, od5, .func (PySem.W.fnOf "signed_list" "signed_list" (defArgs sSignedList) (defBody sSignedList) (defScope sSignedList) .none kV5 dc5 pm5 an5 cd5 ct5), sl5⟩)
    (c5 : PySem.W.codeIn K cd5 "signed_list" = true)
    (k5 : PySem.W.keepIn K (.ref f5) = true)
    (a6 : PySem.W.nsIn K mainGlobals "asymmetry" = some (some (.ref f6)))
    (l6 : K.lookup f6 = some ⟨oc6, od6, .func (PySem.W.fnOf "asymmetry" "asymmetry" (defArgs sAsym) (defBody sAsym) (defScope sAsym) .none kV6 dc6 pm6 an6 cd6 ct6), sl6⟩)
    (c6 : PySem.W.codeIn K cd6 "asymmetry" = true)
    (k6 : PySem.W.keepIn K (.ref f6) = true)
    (g_SMALL : PySem.W.nsIn K mainGlobals "SMALL" = some (some (.int 4294967296 t_SMALL)))
    (g_GREAT : PySem.W.nsIn K mainGlobals "GREAT" = some (some (.int 18446744073709551616 t_GREAT)))
    (g_OUT_OF_RANGE : PySem.W.nsIn K mainGlobals "OUT_OF_RANGE" = some (some (.int (-2) t_OUT_OF_RANGE)))
    (g_BAD_MAGNITUDE : PySem.W.nsIn K mainGlobals "BAD_MAGNITUDE" = some (some (.int (-3) t_BAD_MAGNITUDE)))
    (g_MOST_TIMES : PySem.W.nsIn K mainGlobals "MOST_TIMES" = some (some (.int 1024 t_MOST_TIMES)))
    (g_MOST_MAGNITUDE : PySem.W.nsIn K mainGlobals "MOST_MAGNITUDE" = some (some (.int 99999 t_MOST_MAGNITUDE)))
    (z_len : PySem.W.nsIn K mainGlobals "len" = some none)
    (z_all : PySem.W.nsIn K mainGlobals "all" = some none)
    (z_abs : PySem.W.nsIn K mainGlobals "abs" = some none)
    (z_enumerate : PySem.W.nsIn K mainGlobals "enumerate" = some none)
    :
    ∃ fd : FuncData, (∀ (s : Shared) (us : List Value), us.length = (["tolerance", "time", "times", "magnitudes"] : List Str).length → BindsTo s fd ⟨us, []⟩ ((["tolerance", "time", "times", "magnitudes"] : List Str).zip us)) ∧ ∀ base : Heap, K.In base → base.Ns mainGlobals mg → FnOk P w K mg base CX0 3 fa fd ["tolerance", "time", "times", "magnitudes"] (spAsym K) := by
  have e := hfa.symm.trans (PySem.W.mg_of X G a6)
  cases e
  have F_signed := fun_mk (st := sSigned) l0 c0 k0
  have b_signed := F_signed.binds (ps := ["number"]) fun _ _ _ _ _ _ us hl => match us, hl with | [_], _ => rfl
  have m_signed := PySem.W.mg_of X G a0
  have F_great_told := fun_mk (st := sGreatTold) l1 c1 k1
  have b_great_told := F_great_told.binds (ps := ["numbers"]) fun _ _ _ _ _ _ us hl => match us, hl with | [_], _ => rfl
  have m_great_told := PySem.W.mg_of X G a1
  have F_partner_of := fun_mk (st := sPartner) l2 c2 k2
  have b_partner_of := F_partner_of.binds (ps := ["times", "place", "middle", "tolerance"]) fun _ _ _ _ _ _ us hl => match us, hl with | [_, _, _, _], _ => rfl
  have m_partner_of := PySem.W.mg_of X G a2
  have F_asymmetry_of := fun_mk (st := sAsymOf) l3 c3 k3
  have b_asymmetry_of := F_asymmetry_of.binds (ps := ["times", "magnitudes", "middle", "tolerance"]) fun _ _ _ _ _ _ us hl => match us, hl with | [_, _, _, _], _ => rfl
  have m_asymmetry_of := PySem.W.mg_of X G a3
  have F_are_magnitudes := fun_mk (st := sAreMag) l4 c4 k4
  have b_are_magnitudes := F_are_magnitudes.binds (ps := ["numbers"]) fun _ _ _ _ _ _ us hl => match us, hl with | [_], _ => rfl
  have m_are_magnitudes := PySem.W.mg_of X G a4
  have F_signed_list := fun_mk (st := sSignedList) l5 c5 k5
  have b_signed_list := F_signed_list.binds (ps := ["numbers"]) fun _ _ _ _ _ _ us hl => match us, hl with | [_], _ => rfl
  have m_signed_list := PySem.W.mg_of X G a5
  have F_asymmetry := fun_mk (st := sAsym) l6 c6 k6
  have b_asymmetry := F_asymmetry.binds (ps := ["tolerance", "time", "times", "magnitudes"]) fun _ _ _ _ _ _ us hl => match us, hl with | [_, _, _, _], _ => rfl
  have m_asymmetry := PySem.W.mg_of X G a6
  have g_SMALL : GI mg "SMALL" 4294967296 := ⟨_, PySem.W.mg_of X G g_SMALL⟩
  have g_GREAT : GI mg "GREAT" 18446744073709551616 := ⟨_, PySem.W.mg_of X G g_GREAT⟩
  have g_OUT_OF_RANGE : GI mg "OUT_OF_RANGE" (-2) := ⟨_, PySem.W.mg_of X G g_OUT_OF_RANGE⟩
  have g_BAD_MAGNITUDE : GI mg "BAD_MAGNITUDE" (-3) := ⟨_, PySem.W.mg_of X G g_BAD_MAGNITUDE⟩
  have g_MOST_TIMES : GI mg "MOST_TIMES" 1024 := ⟨_, PySem.W.mg_of X G g_MOST_TIMES⟩
  have g_MOST_MAGNITUDE : GI mg "MOST_MAGNITUDE" 99999 := ⟨_, PySem.W.mg_of X G g_MOST_MAGNITUDE⟩
  have z_len := PySem.W.mg_none_of X G z_len
  have z_all := PySem.W.mg_none_of X G z_all
  have z_abs := PySem.W.mg_none_of X G z_abs
  have z_enumerate := PySem.W.mg_none_of X G z_enumerate
  exact ⟨PySem.W.fnOf "asymmetry" "asymmetry" (defArgs sAsym) (defBody sAsym) (defScope sAsym) .none kV6 dc6 pm6 an6 cd6 ct6, fun s us hu => match us, hu with | [_, _, _, _], _ => .of_eq rfl, fun base _ _ => ok_asym F_asymmetry (ok_signed_list F_signed_list F_signed b_signed m_signed g_SMALL) F_signed_list.kp b_signed_list m_signed_list (ok_are_mag F_are_magnitudes g_MOST_MAGNITUDE z_all z_abs) F_are_magnitudes.kp b_are_magnitudes m_are_magnitudes (ok_asym_of F_asymmetry_of F_partner_of b_partner_of m_partner_of z_enumerate z_abs) F_asymmetry_of.kp b_asymmetry_of m_asymmetry_of (ok_great_told F_great_told g_GREAT) F_great_told.kp b_great_told m_great_told g_OUT_OF_RANGE g_BAD_MAGNITUDE g_MOST_TIMES z_len⟩
end LC
open PySem PySem.W PyProof.Rows
set_option maxRecDepth 100000 in
set_option maxHeartbeats 8000000 in
theorem PySem.Challenge.cw_lightcurves_s10_asymmetry_holds : PySem.Challenge.rw_lightcurves_s10_asymmetry.Holds := by
  w_on; k_headS; (case hw => exact ⟨[.int 0, .int 0, .list [], .list []], by decide +kernel, by decide +kernel⟩)
  k_fillS
  refine L2.walk_specK (r := PySem.Challenge.rw_lightcurves_s10_asymmetry) (k := 3) (CX := L2.CX0) (ps := ["tolerance", "time", "times", "magnitudes"]) (sp := fun K => LC.spAsym K) (by decide +kernel) rfl rfl ⟨rfl, by decide, by decide⟩ (fun w h Y => PySem.W.kIn_of Y) ?F ?S (fun _ _ _ _ z => z)
  case F =>
    intro w mg fa h Y KX G hmg
    refine' LC.all_mk KX G hmg ?a0 ?l0 ?c0 ?k0 ?a1 ?l1 ?c1 ?k1 ?a2 ?l2 ?c2 ?k2 ?a3 ?l3 ?c3 ?k3 ?a4 ?l4 ?c4 ?k4 ?a5 ?l5 ?c5 ?k5 ?a6 ?l6 ?c6 ?k6 ?g_SMALL ?g_GREAT ?g_OUT_OF_RANGE ?g_BAD_MAGNITUDE ?g_MOST_TIMES ?g_MOST_MAGNITUDE ?z_len ?z_all ?z_abs ?z_enumerate
    (case a0 => k_is)
    (case l0 => k_is)
    (case c0 => k_is)
    (case k0 => k_is)
    (case a1 => k_is)
    (case l1 => k_is)
    (case c1 => k_is)
    (case k1 => k_is)
    (case a2 => k_is)
    (case l2 => k_is)
    (case c2 => k_is)
    (case k2 => k_is)
    (case a3 => k_is)
    (case l3 => k_is)
    (case c3 => k_is)
    (case k3 => k_is)
    (case a4 => k_is)
    (case l4 => k_is)
    (case c4 => k_is)
    (case k4 => k_is)
    (case a5 => k_is)
    (case l5 => k_is)
    (case c5 => k_is)
    (case k5 => k_is)
    (case a6 => k_is)
    (case l6 => k_is)
    (case c6 => k_is)
    (case k6 => k_is)
    (case g_SMALL => k_is)
    (case g_GREAT => k_is)
    (case g_OUT_OF_RANGE => k_is)
    (case g_BAD_MAGNITUDE => k_is)
    (case g_MOST_TIMES => k_is)
    (case g_MOST_MAGNITUDE => k_is)
    (case z_len => k_is)
    (case z_all => k_is)
    (case z_abs => k_is)
    (case z_enumerate => k_is)
  case S =>
    intro K H xs a hO hwi hask hx
    obtain ⟨tol, tm, ts, ns, u⟩ := a
    obtain ⟨x0, r0, rfl, d0, hx⟩ := LC.dw_cons hx
    obtain ⟨x1, r1, rfl, d1, hx⟩ := LC.dw_cons hx
    obtain ⟨x2, r2, rfl, d2, hx⟩ := LC.dw_cons hx
    obtain ⟨x3, r3, rfl, d3, hx⟩ := LC.dw_cons hx
    cases LC.dw_nil hx
    cases LC.dw_int d0
    cases LC.dw_int d1
    obtain ⟨p_ts, rfl, h_ts⟩ := LC.dw_list d2
    obtain ⟨p_ns, rfl, h_ns⟩ := LC.dw_list d3
    have q : (Codec.inInt 0 4294967295 tol && (Codec.inInt 0 4294967295 tm && ((Codec.inLen 0 1100 ts && ts.all (Codec.inInt 0 4294967295)) && ((Codec.inLen 0 1100 ns && ns.all (Codec.inInt 0 4294967295)) && true)))) = true := hwi
    have q0 := q
    obtain ⟨w_tol, q0⟩ := Bool.and_eq_true_iff.mp q0
    have u_tol := LC.u32_of w_tol
    obtain ⟨w_tm, q0⟩ := Bool.and_eq_true_iff.mp q0
    have u_tm := LC.u32_of w_tm
    obtain ⟨w_ts, q0⟩ := Bool.and_eq_true_iff.mp q0
    have u_ts := LC.u32s_of w_ts
    obtain ⟨w_ns, q0⟩ := Bool.and_eq_true_iff.mp q0
    have u_ns := LC.u32s_of w_ns
    exact ⟨tol, tm, p_ts, p_ns, ts, ns, rfl, h_ts, h_ns, u_tol, u_tm, u_ts, u_ns, fun hl => LC.asym_asked hask hl, fun p H2 _ _ hp => LC.dw_ans hp⟩
