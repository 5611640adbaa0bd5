import PyProof.Rows.All
import Wide.All
import OpenK.AllK
import Wide.FinOn
import Open.SpecLaws
import KE.OsGo
import HandS.ForSpec
import HandS.Comp
import HandS.Iter
import HandS.Walk
import HandS.Evl
import HandS.Wide
import HandS.NoneIn
import HandS.SortInts
import PyProof.Rows.ChunkEnd
import KE.OsSort
import KE.KLam
import KE.SortKeyHeap
import HandS.Conv
import HandS.Lambda
import HandS.Spec
import HandS.EndTab
import KE.KNest
import PySem.Challenge.RW_lightcurves_s08_best_box
namespace LC
/-! ### numbers -/
/-- the signed number that is told by one from 0 on -/
def sg (n : Int) : Int := if 2147483648 ≤ n then n - 4294967296 else n
theorem sg_signed {n : Int} (h : 0 ≤ n) : sg n = Sh70.signed32 n.toNat := by
  unfold sg Sh70.signed32
  split <;> split <;> omega
theorem sg_words : ∀ {ns : List Int}, (∀ n ∈ ns, 0 ≤ n) → Sh70.signedWords (Sh70Neutral.toNats ns) = ns.map sg
  | [], _ => rfl
  | n :: r, h => by
    have ih := sg_words (ns := r) fun m hm => h m (List.mem_cons_of_mem _ hm)
    show Sh70.signed32 n.toNat :: Sh70.signedWords (Sh70Neutral.toNats r) = sg n :: r.map sg
    rw [ih, sg_signed (h n (List.mem_cons_self ..))]
theorem toInt32_sg {n : Int} (h : 0 ≤ n) : Sh70Neutral.toInt32 n.toNat = sg n := by
  unfold sg Sh70Neutral.toInt32
  split <;> split <;> omega
theorem toNats_len (ns : List Int) : (Sh70Neutral.toNats ns).length = ns.length := by
  unfold Sh70Neutral.toNats
  rw [List.length_map]
theorem sum_eq (l : List Int) : Sh70.sum l = l.sum := rfl
theorem w32 : ∀ l : List Int, Sh70Neutral.toInts (l.map Sh70.word32) = l.map fun z => z % 4294967296
  | [] => rfl
  | z :: r => by
    show ((Sh70.word32 z : Nat) : Int) :: Sh70Neutral.toInts (r.map Sh70.word32) = z % 4294967296 :: r.map fun z => z % 4294967296
    rw [w32 r]
    have e : ((Sh70.word32 z : Nat) : Int) = z % 4294967296 := by
      unfold Sh70.word32
      omega
    rw [e]
theorem w64 (z : Int) : ((Sh70.word64 z : Nat) : Int) = z % 18446744073709551616 := by
  unfold Sh70.word64
  omega
/-- what the program asks of a magnitude -/
def magOk (z : Int) : Bool := decide ((if z < 0 then -z else z) ≤ 99999)
theorem mag_is (z : Int) : magOk z = decide (z.natAbs < 100000) := by
  unfold magOk
  by_cases h : z < 0
  · rw [if_pos h]
    exact decide_eq_decide.mpr (by omega)
  · rw [if_neg h]
    exact decide_eq_decide.mpr (by omega)
theorem mags_are (l : List Int) : l.all magOk = Sh70.areValidMagnitudes l := by
  unfold Sh70.areValidMagnitudes
  rw [show magOk = fun a => decide (a.natAbs < 100000) from funext mag_is]
/-- the counts of a table -/
def tabOk (sc len : Int) : Bool := decide (1 ≤ sc) && decide (sc ≤ 32) && (decide (1 ≤ len / sc) && decide (len / sc ≤ 64))
theorem tab_is {sc : Int} {n : Nat} (h : 0 ≤ sc) : Sh70.isTableSize sc.toNat (n / sc.toNat) = tabOk sc (n : Int) := by
  obtain ⟨k, rfl⟩ := Int.eq_ofNat_of_zero_le h
  unfold Sh70.isTableSize Sh70.isBetween tabOk
  rw [show ((k : Int)).toNat = k from rfl]
  have e1 : decide (1 ≤ k) = decide ((1 : Int) ≤ (k : Int)) := decide_eq_decide.mpr (by omega)
  have e2 : decide (k ≤ 32) = decide ((k : Int) ≤ 32) := decide_eq_decide.mpr (by omega)
  have e0 : (n : Int) / (k : Int) = ((n / k : Nat) : Int) := (Int.natCast_ediv n k).symm
  have e3 : decide (1 ≤ n / k) = decide ((1 : Int) ≤ (n : Int) / (k : Int)) := decide_eq_decide.mpr (by rw [e0]; omega)
  have e4 : decide (n / k ≤ 64) = decide ((n : Int) / (k : Int) ≤ 64) := decide_eq_decide.mpr (by rw [e0]; omega)
  rw [e1, e2, e3, e4]
/-- one item more -/
theorem take_more {α : Type} : ∀ {l : List α} {i : Nat} {x : α}, l[i]? = some x → l.take (i + 1) = l.take i ++ [x]
  | [], i, x, h => by simp at h
  | a :: l, 0, x, h => by
    have e : a = x := Option.some.inj h
    subst e
    rfl
  | a :: l, i + 1, x, h => by
    have ih := take_more (l := l) (i := i) (x := x) h
    show a :: l.take (i + 1) = a :: l.take i ++ [x]
    rw [ih]
    rfl
theorem map_get {α β : Type} {f : α → β} {l : List α} {i : Nat} {y : β} (h : (l.map f)[i]? = some y) : ∃ x, l[i]? = some x ∧ y = f x := by
  rw [List.getElem?_map] at h
  cases e : l[i]? with
  | none =>
    rw [e] at h
    cases h
  | some x =>
    rw [e] at h
    exact ⟨x, rfl, (Option.some.inj h).symm⟩
end LC
namespace LC
/-! ### sums and squares -/
/-- how many there are times the sum of their squares, less the square of their sum -/
def spr (l : List Int) : Int := (l.length : Int) * (l.map fun a => a * a).sum - l.sum * l.sum
def dev (a : Int) (l : List Int) : Int := (l.map fun x => (x - a) * (x - a)).sum
theorem sq_nonneg (a : Int) : 0 ≤ a * a := by
  rcases Int.le_total 0 a with h | h
  · exact Int.mul_nonneg h h
  · exact Int.mul_nonneg_of_nonpos_of_nonpos h h
theorem dev_nonneg (a : Int) : ∀ l, 0 ≤ dev a l
  | [] => Int.le_refl 0
  | x :: r => by
    show 0 ≤ ((x - a) * (x - a) :: r.map fun x => (x - a) * (x - a)).sum
    rw [List.sum_cons]
    exact Int.add_nonneg (sq_nonneg _) (dev_nonneg a r)
theorem dev_eq (a : Int) : ∀ l : List Int, dev a l = (l.map fun a => a * a).sum - 2 * (a * l.sum) + (l.length : Int) * (a * a)
  | [] => by simp [dev]
  | x :: r => by
    have ih := dev_eq a r
    have e : dev a (x :: r) = (x - a) * (x - a) + dev a r := by
      show ((x - a) * (x - a) :: r.map fun x => (x - a) * (x - a)).sum = _
      rw [List.sum_cons]
      rfl
    rw [e, ih, List.map_cons, List.sum_cons, List.sum_cons, List.length_cons]
    have h1 : (x - a) * (x - a) = x * x - 2 * (a * x) + a * a := by
      rw [Int.sub_mul, Int.mul_sub, Int.mul_sub, Int.mul_comm x a]
      omega
    have h2 : a * (x + r.sum) = a * x + a * r.sum := Int.mul_add _ _ _
    have h3 : ((r.length + 1 : Nat) : Int) * (a * a) = (r.length : Int) * (a * a) + a * a := by
      rw [Int.natCast_add, Int.add_mul]
      simp
    rw [h1, h2, h3]
    omega
theorem spr_nonneg : ∀ l, 0 ≤ spr l
  | [] => by simp [spr]
  | a :: r => by
    have ih := spr_nonneg r
    have d := dev_nonneg a r
    rw [dev_eq] at d
    unfold spr at ih ⊢
    rw [List.map_cons, List.sum_cons, List.sum_cons, List.length_cons]
    generalize (r.map fun a => a * a).sum = S2 at *
    generalize r.sum = S at *
    have h3 : ((r.length + 1 : Nat) : Int) * (a * a + S2) = (r.length : Int) * (a * a) + (r.length : Int) * S2 + (a * a + S2) := by
      rw [Int.natCast_add, Int.add_mul, Int.mul_add]
      simp
    have h4 : (a + S) * (a + S) = a * a + 2 * (a * S) + S * S := by
      rw [Int.add_mul, Int.mul_add, Int.mul_add, Int.mul_comm S a]
      omega
    rw [h3, h4]
    generalize (r.length : Int) * S2 = x1 at *
    generalize S * S = x2 at *
    generalize a * a = x3 at *
    generalize a * S = x4 at *
    generalize (r.length : Int) * x3 = x5 at *
    omega
theorem sum_bound {b : Int} (hb : 0 ≤ b) : ∀ {l : List Int}, (∀ x ∈ l, -b ≤ x ∧ x ≤ b) → -(b * (l.length : Int)) ≤ l.sum ∧ l.sum ≤ b * (l.length : Int)
  | [], _ => by simp
  | x :: r, h => by
    have ih := sum_bound hb (l := r) fun y hy => h y (List.mem_cons_of_mem _ hy)
    have h0 := h x (List.mem_cons_self ..)
    rw [List.sum_cons, List.length_cons]
    have e : b * ((r.length + 1 : Nat) : Int) = b * (r.length : Int) + b := by
      rw [Int.natCast_add, Int.mul_add]
      simp
    rw [e]
    omega
theorem sq_bound {b x : Int} (h : -b ≤ x ∧ x ≤ b) : x * x ≤ b * b := by
  have h0 : 0 ≤ b := by omega
  rcases Int.le_total 0 x with c | c
  · exact Int.mul_le_mul h.2 h.2 c h0
  · have e : x * x = (-x) * (-x) := by rw [Int.neg_mul_neg]
    rw [e]
    exact Int.mul_le_mul (by omega) (by omega) (by omega) h0
theorem sq_sum_bound {b : Int} : ∀ {l : List Int}, (∀ x ∈ l, -b ≤ x ∧ x ≤ b) → 0 ≤ (l.map fun a => a * a).sum ∧ (l.map fun a => a * a).sum ≤ (b * b) * (l.length : Int)
  | [], _ => by simp
  | x :: r, h => by
    have ih := sq_sum_bound (l := r) fun y hy => h y (List.mem_cons_of_mem _ hy)
    have h0 := h x (List.mem_cons_self ..)
    rw [List.map_cons, List.sum_cons, List.length_cons]
    have e : (b * b) * ((r.length + 1 : Nat) : Int) = (b * b) * (r.length : Int) + b * b := by
      rw [Int.natCast_add, Int.mul_add]
      simp
    have s1 := sq_nonneg x
    have s2 := sq_bound h0
    rw [e]
    omega
theorem mag_bound {l : List Int} (h : Sh70.areValidMagnitudes l = true) : ∀ x ∈ l, -99999 ≤ x ∧ x ≤ 99999 := fun x hx => by
  have e := List.all_eq_true.mp h x hx
  have e2 : x.natAbs < 100000 := of_decide_eq_true e
  omega
theorem spr_spec (l : List Int) : ((l.length : Nat) : Int) * Sh70.sum (l.map fun a => a * a) - Sh70.sum l * Sh70.sum l = spr l := rfl
/-- the scatter, as the program tells it -/
theorem scat_is {l : List Int} (h : 0 < l.length) : ((Sh70.scatter l : Nat) : Int) = (256 * spr l) / ((l.length : Int) * (l.length : Int)) := by
  have e : Sh70.scatter l = (256 * spr l / ((l.length : Int) * (l.length : Int))).toNat := by
    unfold Sh70.scatter
    rw [if_neg (by omega)]
    rfl
  rw [e]
  exact Int.toNat_of_nonneg (Int.ediv_nonneg (Int.mul_nonneg (by decide) (spr_nonneg l)) (sq_nonneg _))
theorem spr_le {b : Int} {l : List Int} (hb : ∀ x ∈ l, -b ≤ x ∧ x ≤ b) : spr l ≤ (b * b) * ((l.length : Int) * (l.length : Int)) := by
  have s := (sq_sum_bound hb).2
  have q := sq_nonneg l.sum
  unfold spr
  have m := Int.mul_le_mul_of_nonneg_left s (show (0 : Int) ≤ (l.length : Int) by omega)
  have e : (l.length : Int) * (b * b * (l.length : Int)) = (b * b) * ((l.length : Int) * (l.length : Int)) := by
    rw [Int.mul_left_comm]
  rw [e] at m
  omega
theorem scat_bound {l : List Int} (hl : 0 < l.length) (h : ∀ x ∈ l, -99999 ≤ x ∧ x ≤ 99999) : Sh70.scatter l < 18446744073709551616 := by
  have e := scat_is hl
  have s := spr_le h
  have p : (0 : Int) < (l.length : Int) * (l.length : Int) := Int.mul_pos (by omega) (by omega)
  have m : (256 * spr l) / ((l.length : Int) * (l.length : Int)) ≤ 256 * (99999 * 99999) := by
    refine Int.ediv_le_of_le_mul p ?_
    generalize (l.length : Int) * (l.length : Int) = nn at *
    omega
  omega
end LC
namespace LC
/-! ### tables -/
theorem getD_some {α : Type} {l : List α} {i : Nat} {d x : α} (h : l[i]? = some x) : l.getD i d = x := by
  rw [List.getD_eq_getElem?_getD, h]
  rfl
theorem intAt_get {l : List Int} {i : Nat} (h : i < l.length) : l[i]? = some (Sh70.intAt l i) := by
  rw [List.getElem?_eq_getElem h]
  unfold Sh70.intAt
  rw [List.getD_eq_getElem?_getD, List.getElem?_eq_getElem h]
  rfl
theorem row_len {sc : Nat} {ns : List Int} {m i : Nat} (hl : ns.length = sc * m) (hi : i < m) : (Sh70.imageRow sc ns i).length = sc := by
  unfold Sh70.imageRow
  rw [List.length_take, List.length_drop, hl]
  have e : i * sc + sc ≤ sc * m := by
    rw [Nat.mul_comm sc m]
    calc i * sc + sc = (i + 1) * sc := by rw [Nat.succ_mul]
      _ ≤ m * sc := Nat.mul_le_mul_right _ hi
  omega
theorem row_get {sc : Nat} {ns : List Int} {m i j : Nat} (hl : ns.length = sc * m) (hi : i < m) (hj : j < sc) : (Sh70.imageRow sc ns i)[j]? = some (Sh70.intAt ns (i * sc + j)) := by
  have e : i * sc + sc ≤ sc * m := by
    rw [Nat.mul_comm sc m]
    calc i * sc + sc = (i + 1) * sc := by rw [Nat.succ_mul]
      _ ≤ m * sc := Nat.mul_le_mul_right _ hi
  unfold Sh70.imageRow
  rw [List.getElem?_take, if_pos hj, List.getElem?_drop]
  exact intAt_get (by omega)
theorem div_len {sc : Nat} {ns : List Int} {m : Nat} (h0 : 0 < sc) (hl : ns.length = sc * m) : ns.length / sc = m := by
  rw [hl]
  exact Nat.mul_div_cancel_left m h0
theorem column_is {sc : Nat} {ns : List Int} {m j : Nat} (h0 : 0 < sc) (hl : ns.length = sc * m) : Sh70.starColumn sc ns j = (List.range m).map fun i => Sh70.intAt ns (i * sc + j) := by
  unfold Sh70.starColumn
  rw [div_len h0 hl]
theorem column_len {sc : Nat} {ns : List Int} {m j : Nat} (h0 : 0 < sc) (hl : ns.length = sc * m) : (Sh70.starColumn sc ns j).length = m := by
  rw [column_is h0 hl, List.length_map, List.length_range]
theorem intAt_mem {l : List Int} {i : Nat} (h : i < l.length) : Sh70.intAt l i ∈ l := List.mem_of_getElem? (intAt_get h)
theorem cell_lt {sc m i j : Nat} (hi : i < m) (hj : j < sc) : i * sc + j < sc * m := by
  have e : i * sc + sc ≤ sc * m := by
    rw [Nat.mul_comm sc m]
    calc i * sc + sc = (i + 1) * sc := by rw [Nat.succ_mul]
      _ ≤ m * sc := Nat.mul_le_mul_right _ hi
  omega
theorem column_bound {sc : Nat} {ns : List Int} {m j : Nat} (h0 : 0 < sc) (hl : ns.length = sc * m) (hj : j < sc) (hb : ∀ x ∈ ns, -99999 ≤ x ∧ x ≤ 99999) : ∀ x ∈ Sh70.starColumn sc ns j, -99999 ≤ x ∧ x ≤ 99999 := fun x hx => by
  rw [column_is h0 hl] at hx
  obtain ⟨i, hi, rfl⟩ := List.mem_map.mp hx
  exact hb _ (intAt_mem (by rw [hl]; exact cell_lt (List.mem_range.mp hi) hj))
theorem medians_len (sc : Nat) (ns : List Int) : (Sh70.starMedians sc ns).length = sc := by
  unfold Sh70.starMedians
  rw [List.length_map, List.length_range]
theorem ext_is {sc : Nat} {ns : List Int} {m : Nat} (h0 : 0 < sc) (hl : ns.length = sc * m) :
    Sh70.extinctions sc ns = (List.range m).map fun i => Sh70.median (((Sh70.imageRow sc ns i).zip (Sh70.starMedians sc ns)).map fun p => p.1 - p.2) := by
  unfold Sh70.extinctions
  rw [div_len h0 hl]
theorem ext_len {sc : Nat} {ns : List Int} {m : Nat} (h0 : 0 < sc) (hl : ns.length = sc * m) : (Sh70.extinctions sc ns).length = m := by
  rw [ext_is h0 hl, List.length_map, List.length_range]
/-! ### corrected -/
/-- the first k images without the extinctions e -/
def corrTo (sc : Nat) (ns e : List Int) (k : Nat) : List Int := (List.range (k * sc)).map fun i => Sh70.intAt ns i - Sh70.intAt e (i / sc)
theorem corr_zero (sc : Nat) (ns e : List Int) : corrTo sc ns e 0 = [] := by
  unfold corrTo
  rw [Nat.zero_mul]
  rfl
theorem row_map {sc : Nat} {ns : List Int} {m k : Nat} (hl : ns.length = sc * m) (hk : k < m) : Sh70.imageRow sc ns k = (List.range sc).map fun j => Sh70.intAt ns (k * sc + j) := by
  apply List.ext_getElem?
  intro j
  by_cases hj : j < sc
  · rw [row_get hl hk hj, List.getElem?_map, List.getElem?_range hj]
    rfl
  · rw [List.getElem?_eq_none (by rw [row_len hl hk]; omega), List.getElem?_eq_none (by rw [List.length_map, List.length_range]; omega)]
theorem corr_step {sc : Nat} {ns e : List Int} {m k : Nat} (hl : ns.length = sc * m) (hk : k < m) : corrTo sc ns e (k + 1) = corrTo sc ns e k ++ (Sh70.imageRow sc ns k).map fun z => z - Sh70.intAt e k := by
  unfold corrTo
  rw [Nat.succ_mul, List.range_add, List.map_append, row_map hl hk, List.map_map, List.map_map]
  congr 1
  apply List.map_congr_left
  intro j hj
  have hj' := List.mem_range.mp hj
  show Sh70.intAt ns (k * sc + j) - Sh70.intAt e ((k * sc + j) / sc) = Sh70.intAt ns (k * sc + j) - Sh70.intAt e k
  have q : (k * sc + j) / sc = k := by
    rw [Nat.mul_comm k sc, Nat.mul_add_div (by omega), Nat.div_eq_of_lt hj']
    rfl
  rw [q]
theorem corr_all {sc : Nat} {ns : List Int} {m : Nat} (hl : ns.length = sc * m) : corrTo sc ns (Sh70.extinctions sc ns) m = Sh70.corrected sc ns := by
  unfold corrTo Sh70.corrected
  rw [hl, Nat.mul_comm sc m]
theorem corr_len {sc : Nat} {ns e : List Int} {k : Nat} : (corrTo sc ns e k).length = k * sc := by
  unfold corrTo
  rw [List.length_map, List.length_range]
/-! ### scatters -/
def scats (sc : Nat) (ns : List Int) : List Int := (List.range sc).map fun star => ((Sh70.scatter (Sh70.starColumn sc ns star) : Nat) : Int)
/-! ### differential magnitudes -/
def others (star : Nat) (ws : List Nat) : List (Nat × Nat) := ws.zipIdx.filter fun entry => entry.2 != star
def wTot (star : Nat) (ws : List Nat) : Int := (((others star ws).map fun entry => entry.1).sum : Nat)
def wSum (star : Nat) (row : List Int) (ws : List Nat) : Int := ((others star ws).map fun entry => (entry.1 : Int) * Sh70.intAt row entry.2).sum
theorem others_more {star i : Nat} {ws : List Nat} {w : Nat} (h : ws[i]? = some w) : others star (ws.take (i + 1)) = others star (ws.take i) ++ (if i != star then [(w, i)] else []) := by
  have hi : i < ws.length := (List.getElem?_eq_some_iff.mp h).1
  unfold others
  rw [take_more h, List.zipIdx_append, List.filter_append]
  have e : (ws.take i).length = i := by
    rw [List.length_take]
    omega
  rw [e]
  congr 1
  show List.filter (fun entry : Nat × Nat => entry.2 != star) [(w, 0 + i)] = _
  rw [Nat.zero_add, List.filter_cons]
  rfl
theorem wTot_in {star i : Nat} {ws : List Nat} {w : Nat} (h : ws[i]? = some w) (c : (i != star) = true) : wTot star (ws.take (i + 1)) = wTot star (ws.take i) + (w : Int) := by
  unfold wTot
  rw [others_more h, if_pos c, List.map_append, List.sum_append]
  show (((((others star (ws.take i)).map fun entry => entry.1).sum + ([w] : List Nat).sum : Nat)) : Int) = _
  rw [show ([w] : List Nat).sum = w by simp]
  omega
theorem wSum_in {star i : Nat} {row : List Int} {ws : List Nat} {w : Nat} (h : ws[i]? = some w) (c : (i != star) = true) : wSum star row (ws.take (i + 1)) = wSum star row (ws.take i) + (w : Int) * Sh70.intAt row i := by
  unfold wSum
  rw [others_more h, if_pos c, List.map_append, List.sum_append]
  show _ + ([(w : Int) * Sh70.intAt row i] : List Int).sum = _
  rw [List.sum_cons]
  show _ + ((w : Int) * Sh70.intAt row i + 0) = _
  omega
theorem wTot_out {star i : Nat} {ws : List Nat} {w : Nat} (h : ws[i]? = some w) (c : ¬ (i != star) = true) : wTot star (ws.take (i + 1)) = wTot star (ws.take i) := by
  unfold wTot
  rw [others_more h, if_neg c, List.append_nil]
theorem wSum_out {star i : Nat} {row : List Int} {ws : List Nat} {w : Nat} (h : ws[i]? = some w) (c : ¬ (i != star) = true) : wSum star row (ws.take (i + 1)) = wSum star row (ws.take i) := by
  unfold wSum
  rw [others_more h, if_neg c, List.append_nil]
theorem nat_sum_bound {b : Nat} : ∀ {l : List Nat}, (∀ x ∈ l, x ≤ b) → l.sum ≤ b * l.length
  | [], _ => by simp
  | x :: r, h => by
    have ih := nat_sum_bound (l := r) fun y hy => h y (List.mem_cons_of_mem _ hy)
    have h0 := h x (List.mem_cons_self ..)
    rw [List.sum_cons, List.length_cons, Nat.mul_succ]
    omega
theorem others_len (star : Nat) (ws : List Nat) : (others star ws).length ≤ ws.length := by
  unfold others
  have h := List.length_filter_le (fun entry : Nat × Nat => entry.2 != star) ws.zipIdx
  rw [List.length_zipIdx] at h
  exact h
theorem others_mem {star : Nat} {ws : List Nat} {p : Nat × Nat} (h : p ∈ others star ws) : p.1 ∈ ws := by
  have h1 := (List.mem_filter.mp h).1
  obtain ⟨x, i⟩ := p
  have h2 := List.mem_zipIdx_iff_getElem?.mp h1
  exact List.mem_of_getElem? h2
theorem wTot_bound {star : Nat} {ws : List Nat} (h : ∀ x ∈ ws, x ≤ 65535) : 0 ≤ wTot star ws ∧ wTot star ws ≤ 65535 * (ws.length : Int) := by
  have b := nat_sum_bound (b := 65535) (l := (others star ws).map fun entry => entry.1) fun x hx => by
    obtain ⟨p, hp, rfl⟩ := List.mem_map.mp hx
    exact h _ (others_mem hp)
  rw [List.length_map] at b
  have c := others_len star ws
  have d : 65535 * (others star ws).length ≤ 65535 * ws.length := Nat.mul_le_mul_left _ c
  unfold wTot
  omega
/-- the differential magnitude, as the program tells it -/
theorem diff_is (ws : List Nat) (star : Nat) (row : List Int) : Sh70.differential ws star row = if 0 < wTot star ws then Sh70.intAt row star - (2 * wSum star row ws + wTot star ws) / (2 * wTot star ws) else 0 := by
  show (if ((others star ws).map fun entry => entry.1).sum = 0 then (0 : Int) else Sh70.intAt row star - (2 * wSum star row ws + wTot star ws) / (2 * wTot star ws)) = _
  by_cases c : ((others star ws).map fun entry => entry.1).sum = 0
  · rw [if_pos c, if_neg (by unfold wTot; omega)]
  · rw [if_neg c, if_pos (by unfold wTot; omega)]
end LC
namespace LC
/-! ### what is due, by the ways of the program -/
theorem toInts_app (a b : List Nat) : Sh70Neutral.toInts (a ++ b) = Sh70Neutral.toInts a ++ Sh70Neutral.toInts b := List.map_append
section
variable {sc : Int} {ns : List Int}
theorem nat_div {n : Nat} {c : Int} (h0 : 0 ≤ c) : ((n / c.toNat : Nat) : Int) = (n : Int) / c := by
  obtain ⟨k, rfl⟩ := Int.eq_ofNat_of_zero_le h0
  exact Int.natCast_ediv n k
theorem tab_facts (h : tabOk sc (ns.length : Int) = true) : 1 ≤ sc ∧ sc ≤ 32 ∧ 1 ≤ (ns.length : Int) / sc ∧ (ns.length : Int) / sc ≤ 64 := by
  unfold tabOk at h
  simp only [Bool.and_eq_true, decide_eq_true_eq] at h
  exact ⟨h.1.1, h.1.2, h.2.1, h.2.2⟩
theorem table_of (h0 : 0 ≤ sc) : Sh70.isTableSize sc.toNat ((Sh70Neutral.toNats ns).length / sc.toNat) = tabOk sc (ns.length : Int) := by
  rw [toNats_len]
  exact tab_is h0
theorem ext_bad (h0 : 0 ≤ sc) (h : tabOk sc (ns.length : Int) = false) : PySh70.extinctions sc ns = [-2] := by
  show (match (some (if Sh70.isTableSize sc.toNat ((Sh70Neutral.toNats ns).length / sc.toNat) = true then Sh70.Call.extinctions sc.toNat (Sh70.signedWords (Sh70Neutral.toNats ns)) else .invalid) : Option Sh70.Call) with | none => [] | some parsed => Sh70Neutral.flatten (Sh70.answer parsed)) = _
  rw [table_of h0, h]
  rfl
theorem ext_mag (h0 : 0 ≤ sc) (hn : ∀ n ∈ ns, 0 ≤ n) (h : tabOk sc (ns.length : Int) = true) (hm : Sh70.areValidMagnitudes (ns.map sg) = false) : PySh70.extinctions sc ns = [-3] := by
  show (match (some (if Sh70.isTableSize sc.toNat ((Sh70Neutral.toNats ns).length / sc.toNat) = true then Sh70.Call.extinctions sc.toNat (Sh70.signedWords (Sh70Neutral.toNats ns)) else .invalid) : Option Sh70.Call) with | none => [] | some parsed => Sh70Neutral.flatten (Sh70.answer parsed)) = _
  rw [table_of h0, h, if_pos rfl, sg_words hn]
  show Sh70Neutral.flatten (if Sh70.areValidMagnitudes (ns.map sg) = false then Sh70.errorAnswer (-3) else _) = _
  rw [if_pos hm]
  rfl
theorem ext_ok (h0 : 0 ≤ sc) (hn : ∀ n ∈ ns, 0 ≤ n) (h : tabOk sc (ns.length : Int) = true) (hm : Sh70.areValidMagnitudes (ns.map sg) = true) :
    PySh70.extinctions sc ns = [0, ((Sh70.starMedians sc.toNat (ns.map sg)).length : Int)] ++ (Sh70.starMedians sc.toNat (ns.map sg)).map (fun z => z % 4294967296) ++ [((Sh70.extinctions sc.toNat (ns.map sg)).length : Int)] ++ (Sh70.extinctions sc.toNat (ns.map sg)).map fun z => z % 4294967296 := by
  show (match (some (if Sh70.isTableSize sc.toNat ((Sh70Neutral.toNats ns).length / sc.toNat) = true then Sh70.Call.extinctions sc.toNat (Sh70.signedWords (Sh70Neutral.toNats ns)) else .invalid) : Option Sh70.Call) with | none => [] | some parsed => Sh70Neutral.flatten (Sh70.answer parsed)) = _
  rw [table_of h0, h, if_pos rfl, sg_words hn]
  show Sh70Neutral.flatten (if Sh70.areValidMagnitudes (ns.map sg) = false then Sh70.errorAnswer (-3) else _) = _
  rw [if_neg (by rw [hm]; decide)]
  show (0 : Int) :: ([(Sh70.starMedians sc.toNat (ns.map sg)).map Sh70.word32, (Sh70.extinctions sc.toNat (ns.map sg)).map Sh70.word32].flatMap fun output : List Nat => ((output.length : Nat) : Int) :: Sh70Neutral.toInts output) = _
  simp only [List.flatMap_cons, List.flatMap_nil, List.append_nil, w32, List.length_map, List.cons_append, List.nil_append, List.append_assoc]
theorem cor_bad (h0 : 0 ≤ sc) (h : tabOk sc (ns.length : Int) = false) : PySh70.corrected_magnitudes sc ns = [-2] := by
  show (match (some (if Sh70.isTableSize sc.toNat ((Sh70Neutral.toNats ns).length / sc.toNat) = true then Sh70.Call.corrected sc.toNat (Sh70.signedWords (Sh70Neutral.toNats ns)) else .invalid) : Option Sh70.Call) with | none => [] | some parsed => Sh70Neutral.flatten (Sh70.answer parsed)) = _
  rw [table_of h0, h]
  rfl
theorem cor_mag (h0 : 0 ≤ sc) (hn : ∀ n ∈ ns, 0 ≤ n) (h : tabOk sc (ns.length : Int) = true) (hm : Sh70.areValidMagnitudes (ns.map sg) = false) : PySh70.corrected_magnitudes sc ns = [-3] := by
  show (match (some (if Sh70.isTableSize sc.toNat ((Sh70Neutral.toNats ns).length / sc.toNat) = true then Sh70.Call.corrected sc.toNat (Sh70.signedWords (Sh70Neutral.toNats ns)) else .invalid) : Option Sh70.Call) with | none => [] | some parsed => Sh70Neutral.flatten (Sh70.answer parsed)) = _
  rw [table_of h0, h, if_pos rfl, sg_words hn]
  show Sh70Neutral.flatten (if Sh70.areValidMagnitudes (ns.map sg) = false then Sh70.errorAnswer (-3) else _) = _
  rw [if_pos hm]
  rfl
theorem cor_ok (h0 : 0 ≤ sc) (hn : ∀ n ∈ ns, 0 ≤ n) (h : tabOk sc (ns.length : Int) = true) (hm : Sh70.areValidMagnitudes (ns.map sg) = true) :
    PySh70.corrected_magnitudes sc ns = [0] ++ (Sh70.corrected sc.toNat (ns.map sg)).map fun z => z % 4294967296 := by
  show (match (some (if Sh70.isTableSize sc.toNat ((Sh70Neutral.toNats ns).length / sc.toNat) = true then Sh70.Call.corrected sc.toNat (Sh70.signedWords (Sh70Neutral.toNats ns)) else .invalid) : Option Sh70.Call) with | none => [] | some parsed => Sh70Neutral.flatten (Sh70.answer parsed)) = _
  rw [table_of h0, h, if_pos rfl, sg_words hn]
  show Sh70Neutral.flatten (if Sh70.areValidMagnitudes (ns.map sg) = false then Sh70.errorAnswer (-3) else _) = _
  rw [if_neg (by rw [hm]; decide)]
  show (0 : Int) :: Sh70Neutral.toInts ((Sh70.corrected sc.toNat (ns.map sg)).map Sh70.word32) = _
  rw [w32]
  rfl
theorem sca_bad (h0 : 0 ≤ sc) (h : tabOk sc (ns.length : Int) = false) : PySh70.scatters sc ns = [-2] := by
  show (match (some (if Sh70.isTableSize sc.toNat ((Sh70Neutral.toNats ns).length / sc.toNat) = true then Sh70.Call.scatters sc.toNat (Sh70.signedWords (Sh70Neutral.toNats ns)) else .invalid) : Option Sh70.Call) with | none => [] | some parsed => Sh70Neutral.flatten (Sh70.answer parsed)) = _
  rw [table_of h0, h]
  rfl
theorem sca_mag (h0 : 0 ≤ sc) (hn : ∀ n ∈ ns, 0 ≤ n) (h : tabOk sc (ns.length : Int) = true) (hm : Sh70.areValidMagnitudes (ns.map sg) = false) : PySh70.scatters sc ns = [-3] := by
  show (match (some (if Sh70.isTableSize sc.toNat ((Sh70Neutral.toNats ns).length / sc.toNat) = true then Sh70.Call.scatters sc.toNat (Sh70.signedWords (Sh70Neutral.toNats ns)) else .invalid) : Option Sh70.Call) with | none => [] | some parsed => Sh70Neutral.flatten (Sh70.answer parsed)) = _
  rw [table_of h0, h, if_pos rfl, sg_words hn]
  show Sh70Neutral.flatten (if Sh70.areValidMagnitudes (ns.map sg) = false then Sh70.errorAnswer (-3) else _) = _
  rw [if_pos hm]
  rfl
theorem scats_bound {c : Nat} {l : List Int} {m : Nat} (h0 : 0 < c) (h1 : 0 < m) (hl : l.length = c * m) (hb : ∀ x ∈ l, -99999 ≤ x ∧ x ≤ 99999) : ∀ z ∈ scats c l, 0 ≤ z ∧ z < 18446744073709551616 := fun z hz => by
  obtain ⟨star, hs, rfl⟩ := List.mem_map.mp hz
  have hs' := List.mem_range.mp hs
  have b := scat_bound (l := Sh70.starColumn c l star) (by rw [column_len h0 hl]; exact h1) (column_bound h0 hl hs' hb)
  omega
theorem scats_get {c : Nat} {l : List Int} {star : Nat} (h : star < c) : (scats c l)[star]? = some ((Sh70.scatter (Sh70.starColumn c l star) : Nat) : Int) := by
  unfold scats
  rw [List.getElem?_map, List.getElem?_range h]
  rfl
theorem map_mod {l : List Int} {b : Int} (h : ∀ z ∈ l, 0 ≤ z ∧ z < b) : l.map (fun z => z % b) = l := by
  have e : l.map (fun z => z % b) = l.map id := List.map_congr_left fun z hz => Int.emod_eq_of_lt (h z hz).1 (h z hz).2
  rw [e, List.map_id]
theorem sca_ok (h0 : 0 ≤ sc) (hn : ∀ n ∈ ns, 0 ≤ n) (h : tabOk sc (ns.length : Int) = true) (hm : Sh70.areValidMagnitudes (ns.map sg) = true) :
    PySh70.scatters sc ns = [0] ++ scats sc.toNat (ns.map sg) := by
  show (match (some (if Sh70.isTableSize sc.toNat ((Sh70Neutral.toNats ns).length / sc.toNat) = true then Sh70.Call.scatters sc.toNat (Sh70.signedWords (Sh70Neutral.toNats ns)) else .invalid) : Option Sh70.Call) with | none => [] | some parsed => Sh70Neutral.flatten (Sh70.answer parsed)) = _
  rw [table_of h0, h, if_pos rfl, sg_words hn]
  show Sh70Neutral.flatten (if Sh70.areValidMagnitudes (ns.map sg) = false then Sh70.errorAnswer (-3) else _) = _
  rw [if_neg (by rw [hm]; decide)]
  show (0 : Int) :: Sh70Neutral.toInts ((List.range sc.toNat).map fun star => Sh70.scatter (Sh70.starColumn sc.toNat (ns.map sg) star)) = _
  unfold scats Sh70Neutral.toInts
  rw [List.map_map]
  rfl
/-! variable stars -/
theorem var_bad {fa : Int} (h0 : 0 ≤ sc) (hf : 0 ≤ fa) (h : (tabOk sc (ns.length : Int) && decide (fa ≤ 65535)) = false) : PySh70.variable_stars sc fa ns = [-2] := by
  show (match (some (if (Sh70.isTableSize sc.toNat ((Sh70Neutral.toNats ns).length / sc.toNat) && decide (fa.toNat ≤ 65535)) = true then Sh70.Call.variableStars fa.toNat sc.toNat (Sh70.signedWords (Sh70Neutral.toNats ns)) else .invalid) : Option Sh70.Call) with | none => [] | some parsed => Sh70Neutral.flatten (Sh70.answer parsed)) = _
  rw [table_of h0, show decide (fa.toNat ≤ 65535) = decide (fa ≤ 65535) from decide_eq_decide.mpr (by omega), h]
  rfl
theorem var_mag {fa : Int} (h0 : 0 ≤ sc) (hf : 0 ≤ fa) (hn : ∀ n ∈ ns, 0 ≤ n) (h : (tabOk sc (ns.length : Int) && decide (fa ≤ 65535)) = true) (hm : Sh70.areValidMagnitudes (ns.map sg) = false) : PySh70.variable_stars sc fa ns = [-3] := by
  show (match (some (if (Sh70.isTableSize sc.toNat ((Sh70Neutral.toNats ns).length / sc.toNat) && decide (fa.toNat ≤ 65535)) = true then Sh70.Call.variableStars fa.toNat sc.toNat (Sh70.signedWords (Sh70Neutral.toNats ns)) else .invalid) : Option Sh70.Call) with | none => [] | some parsed => Sh70Neutral.flatten (Sh70.answer parsed)) = _
  rw [table_of h0, show decide (fa.toNat ≤ 65535) = decide (fa ≤ 65535) from decide_eq_decide.mpr (by omega), h, if_pos rfl, sg_words hn]
  show Sh70Neutral.flatten (if Sh70.areValidMagnitudes (ns.map sg) = false then Sh70.errorAnswer (-3) else _) = _
  rw [if_pos hm]
  rfl
/-- the variable stars, as the program tells them -/
def varsI (fa sc : Nat) (l : List Int) : List Int := (Sh70.variableStars fa sc l).map fun star : Nat => (star : Int)
theorem vars_is (fa sc : Nat) (l : List Int) : Sh70.variableStars fa sc l = (List.range sc).filter fun star => decide ((fa : Int) * max 1 (Sh70.median (scats sc l)) < Sh70.intAt (scats sc l) star) := rfl
theorem var_ok {fa : Int} (h0 : 0 ≤ sc) (hf : 0 ≤ fa) (hn : ∀ n ∈ ns, 0 ≤ n) (h : (tabOk sc (ns.length : Int) && decide (fa ≤ 65535)) = true) (hm : Sh70.areValidMagnitudes (ns.map sg) = true) :
    PySh70.variable_stars sc fa ns = [((varsI fa.toNat sc.toNat (ns.map sg)).length : Int)] ++ varsI fa.toNat sc.toNat (ns.map sg) := by
  show (match (some (if (Sh70.isTableSize sc.toNat ((Sh70Neutral.toNats ns).length / sc.toNat) && decide (fa.toNat ≤ 65535)) = true then Sh70.Call.variableStars fa.toNat sc.toNat (Sh70.signedWords (Sh70Neutral.toNats ns)) else .invalid) : Option Sh70.Call) with | none => [] | some parsed => Sh70Neutral.flatten (Sh70.answer parsed)) = _
  rw [table_of h0, show decide (fa.toNat ≤ 65535) = decide (fa ≤ 65535) from decide_eq_decide.mpr (by omega), h, if_pos rfl, sg_words hn]
  show Sh70Neutral.flatten (if Sh70.areValidMagnitudes (ns.map sg) = false then Sh70.errorAnswer (-3) else _) = _
  rw [if_neg (by rw [hm]; decide)]
  show ((Sh70.variableStars fa.toNat sc.toNat (ns.map sg)).length : Int) :: Sh70Neutral.toInts (Sh70.variableStars fa.toNat sc.toNat (ns.map sg)) = _
  unfold varsI
  rw [List.length_map]
  rfl
end
/-! ### the length of a table that is asked -/
theorem len_asked {sc : Int} {ns : List Int} (h0 : 0 ≤ sc) (h : tabOk sc (ns.length : Int) = true) (ha : (ns.length == (sc.toNat * ((Sh70Neutral.toNats ns).length / sc.toNat))) = true) : ns.length = sc.toNat * (ns.length / sc.toNat) := by
  rw [toNats_len] at ha
  exact eq_of_beq ha
/-- what a table that is in order has: m images -/
structure TabIs (sc : Int) (ns : List Int) (c m : Nat) : Prop where
  sc : sc = (c : Int)
  c0 : 0 < c
  c32 : c ≤ 32
  m0 : 0 < m
  m64 : m ≤ 64
  len : ns.length = c * m
theorem tab_get {sc : Int} {ns : List Int} (h0 : 0 ≤ sc) (h : tabOk sc (ns.length : Int) = true) (ha : (ns.length == (sc.toNat * ((Sh70Neutral.toNats ns).length / sc.toNat))) = true) : TabIs sc ns sc.toNat (ns.length / sc.toNat) := by
  obtain ⟨h1, h2, h3, h4⟩ := tab_facts h
  have e := nat_div (n := ns.length) h0
  exact ⟨by omega, by omega, by omega, by omega, by omega, len_asked h0 h ha⟩
end LC
namespace LC
/-! ### what is asked of a table -/
theorem tab_asked_of {sc : Int} {ns : List Int} {b d : Bool} (h0 : 0 ≤ sc) (h : (if Sh70.isTableSize sc.toNat ((Sh70Neutral.toNats ns).length / sc.toNat) = true then ns.length == (sc.toNat * ((Sh70Neutral.toNats ns).length / sc.toNat)) else d) = true) (ht : tabOk sc (ns.length : Int) = true) : ns.length = sc.toNat * (ns.length / sc.toNat) := by
  rw [table_of h0, if_pos ht] at h
  exact len_asked h0 ht h
theorem ext_asked {sc : Int} {ns : List Int} (h0 : 0 ≤ sc) (h : PySh70.extinctions_asked sc ns = true) : tabOk sc (ns.length : Int) = true → ns.length = sc.toNat * (ns.length / sc.toNat) := by
  have h' : ((Sh70Neutral.fits sc 32 && (Sh70Neutral.allFit ns 32 && ((if (Sh70.isTableSize (sc.toNat) (((Sh70Neutral.toNats ns).length / sc.toNat))) = true then ns.length == (sc.toNat * ((Sh70Neutral.toNats ns).length / sc.toNat)) else ((ns.isEmpty) || (ns.length == (sc.toNat * ((Sh70Neutral.toNats ns).length / sc.toNat)))))))) && decide ((Sh70Neutral.f [[0, sc], ns]).length < 1000000)) = true := h
  rw [Bool.and_eq_true, Bool.and_eq_true, Bool.and_eq_true] at h'
  exact tab_asked_of (b := true) h0 h'.1.2.2
theorem cor_asked {sc : Int} {ns : List Int} (h0 : 0 ≤ sc) (h : PySh70.corrected_magnitudes_asked sc ns = true) : tabOk sc (ns.length : Int) = true → ns.length = sc.toNat * (ns.length / sc.toNat) := by
  have h' : ((Sh70Neutral.fits sc 32 && (Sh70Neutral.allFit ns 32 && ((if (Sh70.isTableSize (sc.toNat) (((Sh70Neutral.toNats ns).length / sc.toNat))) = true then ns.length == (sc.toNat * ((Sh70Neutral.toNats ns).length / sc.toNat)) else ((ns.isEmpty) || (ns.length == (sc.toNat * ((Sh70Neutral.toNats ns).length / sc.toNat)))))))) && decide ((Sh70Neutral.f [[1, sc], ns]).length < 1000000)) = true := h
  rw [Bool.and_eq_true, Bool.and_eq_true, Bool.and_eq_true] at h'
  exact tab_asked_of (b := true) h0 h'.1.2.2
theorem sca_asked {sc : Int} {ns : List Int} (h0 : 0 ≤ sc) (h : PySh70.scatters_asked sc ns = true) : tabOk sc (ns.length : Int) = true → ns.length = sc.toNat * (ns.length / sc.toNat) := by
  have h' : ((Sh70Neutral.fits sc 32 && (Sh70Neutral.allFit ns 32 && ((if (Sh70.isTableSize (sc.toNat) (((Sh70Neutral.toNats ns).length / sc.toNat))) = true then ns.length == (sc.toNat * ((Sh70Neutral.toNats ns).length / sc.toNat)) else ((ns.isEmpty) || (ns.length == (sc.toNat * ((Sh70Neutral.toNats ns).length / sc.toNat)))))))) && decide ((Sh70Neutral.f [[2, sc], ns]).length < 1000000)) = true := h
  rw [Bool.and_eq_true, Bool.and_eq_true, Bool.and_eq_true] at h'
  exact tab_asked_of (b := true) h0 h'.1.2.2
theorem var_asked {sc fa : Int} {ns : List Int} (h0 : 0 ≤ sc) (hf : 0 ≤ fa) (h : PySh70.variable_stars_asked sc fa ns = true) : (tabOk sc (ns.length : Int) && decide (fa ≤ 65535)) = true → ns.length = sc.toNat * (ns.length / sc.toNat) := fun ht => by
  have h' : ((Sh70Neutral.fits sc 32 && (Sh70Neutral.fits fa 32 && (Sh70Neutral.allFit ns 32 && ((if (Sh70.isTableSize (sc.toNat) (((Sh70Neutral.toNats ns).length / sc.toNat)) && decide (fa.toNat ≤ 65535)) = true then ns.length == (sc.toNat * ((Sh70Neutral.toNats ns).length / sc.toNat)) else ((ns.isEmpty) || (ns.length == (sc.toNat * ((Sh70Neutral.toNats ns).length / sc.toNat))))))))) && decide ((Sh70Neutral.f [[4, sc, fa], ns]).length < 1000000)) = true := h
  rw [Bool.and_eq_true, Bool.and_eq_true, Bool.and_eq_true, Bool.and_eq_true] at h'
  have h2 := h'.1.2.2.2
  rw [table_of h0, show decide (fa.toNat ≤ 65535) = decide (fa ≤ 65535) from decide_eq_decide.mpr (by omega), if_pos ht] at h2
  rw [Bool.and_eq_true] at ht
  exact len_asked h0 ht.1 h2
/-- .. with weights -/
theorem dif_asked {sc star : Int} {ws ns : List Int} (h0 : 0 ≤ sc) (h : PySh70.differential_magnitudes_asked sc star ws ns = true) (ht : tabOk sc (ns.length : Int) = true) : ws.length = sc.toNat ∧ ns.length = sc.toNat * (ns.length / sc.toNat) := by
  have h' : ((Sh70Neutral.fits sc 32 && (Sh70Neutral.fits star 32 && (Sh70Neutral.allFit ws 32 && (Sh70Neutral.allFit ns 32 && ((if (Sh70.isTableSize (sc.toNat) (((Sh70Neutral.toNats ns).length / sc.toNat))) = true then ws.length == (sc.toNat) && ns.length == (sc.toNat * ((Sh70Neutral.toNats ns).length / sc.toNat)) else ((ws.isEmpty && ns.isEmpty) || (ws.length == (sc.toNat) && ns.length == (sc.toNat * ((Sh70Neutral.toNats ns).length / sc.toNat)))))))))) && decide ((Sh70Neutral.f [[3, sc, star], ws, ns]).length < 1000000)) = true := h
  rw [Bool.and_eq_true, Bool.and_eq_true, Bool.and_eq_true, Bool.and_eq_true, Bool.and_eq_true] at h'
  have h2 := h'.1.2.2.2.2
  rw [table_of h0, if_pos ht, Bool.and_eq_true] at h2
  exact ⟨eq_of_beq h2.1, len_asked h0 ht h2.2⟩
end LC
namespace LC
/-! ### folding -/
/-- the phases of the times -/
def phs (period : Nat) (times : List Nat) : List Nat := times.map (Sh70.phase period)
/-- the places of the times, by phase, equal phases in their order -/
def plc (period : Nat) (times : List Nat) : List Nat := (List.range times.length).mergeSort fun a b => decide (Sh70.natAt (phs period times) a ≤ Sh70.natAt (phs period times) b)
theorem natAt_get {l : List Nat} {i : Nat} (h : i < l.length) : l[i]? = some (Sh70.natAt l i) := by
  rw [List.getElem?_eq_getElem h]
  unfold Sh70.natAt
  rw [List.getD_eq_getElem?_getD, List.getElem?_eq_getElem h]
  rfl
theorem zip_by {α β : Type} (d : α) (e : β) : ∀ (l : List α) (r : List β), l.length = r.length → l.zip r = (List.range l.length).map fun i => (l.getD i d, r.getD i e)
  | [], [], _ => rfl
  | [], _ :: _, h => by simp at h
  | _ :: _, [], h => by simp at h
  | x :: l, y :: r, h => by
    have ih := zip_by d e l r (by simpa using h)
    rw [List.zip_cons_cons, ih, List.length_cons, List.range_succ_eq_map, List.map_cons, List.map_map]
    rfl
theorem fold_is {period : Nat} {times : List Nat} {ms : List Int} (hl : times.length = ms.length) :
    Sh70.fold period times ms = (plc period times).map fun p => (Sh70.natAt (phs period times) p, Sh70.intAt ms p) := by
  have e : (times.zip ms).map (fun entry => (Sh70.phase period entry.1, entry.2)) = (List.range times.length).map fun p => (Sh70.natAt (phs period times) p, Sh70.intAt ms p) := by
    rw [zip_by 0 0 times ms hl, List.map_map]
    apply List.map_congr_left
    intro i hi
    have hi' := List.mem_range.mp hi
    show (Sh70.phase period (times.getD i 0), ms.getD i 0) = (Sh70.natAt (phs period times) i, Sh70.intAt ms i)
    have e2 : Sh70.natAt (phs period times) i = Sh70.phase period (times.getD i 0) := by
      unfold Sh70.natAt phs
      rw [List.getD_eq_getElem?_getD, List.getD_eq_getElem?_getD, List.getElem?_map, List.getElem?_eq_getElem hi']
      rfl
    rw [e2]
    rfl
  show ((times.zip ms).map fun entry => (Sh70.phase period entry.1, entry.2)).mergeSort (fun a b => decide (a.1 ≤ b.1)) = _
  rw [e]
  unfold plc
  rw [List.map_mergeSort (s := fun a b => decide (a.1 ≤ b.1))]
  intro a _ b _
  rfl
theorem plc_perm (period : Nat) (times : List Nat) : (plc period times).Perm (List.range times.length) := List.mergeSort_perm _ _
theorem plc_len (period : Nat) (times : List Nat) : (plc period times).length = times.length := by
  rw [(plc_perm period times).length_eq, List.length_range]
theorem plc_lt {period : Nat} {times : List Nat} {p : Nat} (h : p ∈ plc period times) : p < times.length := List.mem_range.mp ((plc_perm period times).mem_iff.mp h)
theorem phase_lt {period time : Nat} (h : 0 < period) : Sh70.phase period time < 65536 := by
  unfold Sh70.phase
  rw [Nat.div_lt_iff_lt_mul h]
  have := Nat.mod_lt time h
  omega
theorem fold_len {period : Nat} {times : List Nat} {ms : List Int} (hl : times.length = ms.length) : (Sh70.fold period times ms).length = times.length := by
  rw [fold_is hl, List.length_map, plc_len]
theorem fold_phase {period : Nat} {times : List Nat} {ms : List Int} (h : 0 < period) (hl : times.length = ms.length) : ∀ e ∈ Sh70.fold period times ms, e.1 < 65536 := fun e he => by
  rw [fold_is hl] at he
  obtain ⟨p, hp, rfl⟩ := List.mem_map.mp he
  have hp' := plc_lt hp
  show Sh70.natAt (phs period times) p < 65536
  have g := natAt_get (l := phs period times) (i := p) (by unfold phs; rw [List.length_map]; exact hp')
  obtain ⟨t, _, e2⟩ := map_get (show (times.map (Sh70.phase period))[p]? = some _ from g)
  rw [e2]
  exact phase_lt h
theorem fold_mag {period : Nat} {times : List Nat} {ms : List Int} (hl : times.length = ms.length) (hb : ∀ x ∈ ms, -99999 ≤ x ∧ x ≤ 99999) : ∀ e ∈ Sh70.fold period times ms, -99999 ≤ e.2 ∧ e.2 ≤ 99999 := fun e he => by
  rw [fold_is hl] at he
  obtain ⟨p, hp, rfl⟩ := List.mem_map.mp he
  have hp' := plc_lt hp
  exact hb _ (intAt_mem (by rw [← hl]; exact hp'))
/-! ### what is due of fold -/
theorem nats_of {ns : List Int} (hn : ∀ n ∈ ns, 0 ≤ n) : (Sh70Neutral.toNats ns).map (fun k : Nat => (k : Int)) = ns := by
  unfold Sh70Neutral.toNats
  rw [List.map_map]
  have e : ns.map ((fun k : Nat => (k : Int)) ∘ fun value : Int => value.toNat) = ns.map id := List.map_congr_left fun n h => Int.toNat_of_nonneg (hn n h)
  rw [e, List.map_id]
def foldOk (period : Int) (len : Int) : Bool := decide (1 ≤ period) && decide (period ≤ 16777216) && decide (len ≤ 1024)
theorem fold_args {period : Int} {ts : List Int} (h0 : 0 ≤ period) : (Sh70.isAtMost1024 (Sh70Neutral.toNats ts).length && Sh70.isPeriod period.toNat) = foldOk period (ts.length : Int) := by
  rw [toNats_len]
  unfold Sh70.isAtMost1024 Sh70.isPeriod Sh70.isBetween foldOk
  have e1 : decide (ts.length ≤ 1024) = decide ((ts.length : Int) ≤ 1024) := decide_eq_decide.mpr (by omega)
  have e2 : decide (1 ≤ period.toNat) = decide (1 ≤ period) := decide_eq_decide.mpr (by omega)
  have e3 : decide (period.toNat ≤ 16777216) = decide (period ≤ 16777216) := decide_eq_decide.mpr (by omega)
  rw [e1, e2, e3, Bool.and_comm]
section
variable {period : Int} {ts ns : List Int}
theorem fold_bad (h0 : 0 ≤ period) (h : foldOk period (ts.length : Int) = false) : PySh70.fold period ts ns = [-2] := by
  show (match (some (if (Sh70.isAtMost1024 (Sh70Neutral.toNats ts).length && Sh70.isPeriod period.toNat) = true then Sh70.Call.fold period.toNat (Sh70Neutral.toNats ts) (Sh70.signedWords (Sh70Neutral.toNats ns)) else .invalid) : Option Sh70.Call) with | none => [] | some parsed => Sh70Neutral.flatten (Sh70.answer parsed)) = _
  rw [fold_args h0, h]
  rfl
theorem foldc_mag (h0 : 0 ≤ period) (hn : ∀ n ∈ ns, 0 ≤ n) (h : foldOk period (ts.length : Int) = true) (hm : Sh70.areValidMagnitudes (ns.map sg) = false) : PySh70.fold period ts ns = [-3] := by
  show (match (some (if (Sh70.isAtMost1024 (Sh70Neutral.toNats ts).length && Sh70.isPeriod period.toNat) = true then Sh70.Call.fold period.toNat (Sh70Neutral.toNats ts) (Sh70.signedWords (Sh70Neutral.toNats ns)) else .invalid) : Option Sh70.Call) with | none => [] | some parsed => Sh70Neutral.flatten (Sh70.answer parsed)) = _
  rw [fold_args h0, h, if_pos rfl, sg_words hn]
  show Sh70Neutral.flatten (if Sh70.areValidMagnitudes (ns.map sg) = false then Sh70.errorAnswer (-3) else _) = _
  rw [if_pos hm]
  rfl
theorem fold_ok (h0 : 0 ≤ period) (hn : ∀ n ∈ ns, 0 ≤ n) (h : foldOk period (ts.length : Int) = true) (hm : Sh70.areValidMagnitudes (ns.map sg) = true) :
    PySh70.fold period ts ns = [0, ((Sh70.fold period.toNat (Sh70Neutral.toNats ts) (ns.map sg)).length : Int)] ++ (Sh70.fold period.toNat (Sh70Neutral.toNats ts) (ns.map sg)).map (fun e => (e.1 : Int)) ++ [((Sh70.fold period.toNat (Sh70Neutral.toNats ts) (ns.map sg)).length : Int)] ++ (Sh70.fold period.toNat (Sh70Neutral.toNats ts) (ns.map sg)).map fun e => e.2 % 4294967296 := by
  show (match (some (if (Sh70.isAtMost1024 (Sh70Neutral.toNats ts).length && Sh70.isPeriod period.toNat) = true then Sh70.Call.fold period.toNat (Sh70Neutral.toNats ts) (Sh70.signedWords (Sh70Neutral.toNats ns)) else .invalid) : Option Sh70.Call) with | none => [] | some parsed => Sh70Neutral.flatten (Sh70.answer parsed)) = _
  rw [fold_args h0, h, if_pos rfl, sg_words hn]
  show Sh70Neutral.flatten (if Sh70.areValidMagnitudes (ns.map sg) = false then Sh70.errorAnswer (-3) else _) = _
  rw [if_neg (by rw [hm]; decide)]
  generalize Sh70.fold period.toNat (Sh70Neutral.toNats ts) (ns.map sg) = s
  show (0 : Int) :: ([s.map (fun entry => entry.1), s.map fun entry => Sh70.word32 entry.2].flatMap fun output : List Nat => ((output.length : Nat) : Int) :: Sh70Neutral.toInts output) = _
  have e : s.map (fun entry => Sh70.word32 entry.2) = (s.map fun entry => entry.2).map Sh70.word32 := by
    rw [List.map_map]
    rfl
  have e2 : Sh70Neutral.toInts (s.map fun entry => entry.1) = s.map fun e => (e.1 : Int) := by
    unfold Sh70Neutral.toInts
    rw [List.map_map]
    rfl
  have e3 : (s.map fun entry => entry.2).map (fun z => z % 4294967296) = s.map fun e => e.2 % 4294967296 := by
    rw [List.map_map]
    rfl
  rw [e]
  simp only [List.flatMap_cons, List.flatMap_nil, List.append_nil, w32, e2, e3, List.length_map, List.cons_append, List.nil_append, List.append_assoc]
end
/-! ### string length -/
def mgs (s : List (Nat × Int)) : List Int := s.map fun e => e.2
def pair_abs (a b : Int) : Int := ((a - b).natAbs : Int)
/-- from prev on, link by link -/
def chain : Int → List Int → Int
  | _, [] => 0
  | p, x :: r => pair_abs x p + chain x r
/-- the first i links, the one ahead of the first from the last -/
def links (l : List Int) (i : Nat) : Int := ((List.range i).map fun k => pair_abs (Sh70.intAt l k) (Sh70.intAt l (if k = 0 then l.length - 1 else k - 1))).sum
theorem links_more (l : List Int) (i : Nat) : links l (i + 1) = links l i + pair_abs (Sh70.intAt l i) (Sh70.intAt l (if i = 0 then l.length - 1 else i - 1)) := by
  unfold links
  rw [List.range_succ, List.map_append, List.sum_append, List.map_singleton, List.sum_singleton]
theorem chain_range : ∀ (l : List Int) (p : Int), chain p l = ((List.range l.length).map fun k => pair_abs (Sh70.intAt l k) (if k = 0 then p else Sh70.intAt l (k - 1))).sum
  | [], _ => rfl
  | x :: r, p => by
    show pair_abs x p + chain x r = _
    rw [chain_range r x, List.length_cons, List.range_succ_eq_map, List.map_cons, List.sum_cons, List.map_map]
    congr 1
    congr 1
    apply List.map_congr_left
    intro k _
    show pair_abs (Sh70.intAt r k) (if k = 0 then x else Sh70.intAt r (k - 1)) = pair_abs (Sh70.intAt (x :: r) (k + 1)) (if k + 1 = 0 then p else Sh70.intAt (x :: r) (k + 1 - 1))
    rw [if_neg (Nat.succ_ne_zero k)]
    cases k with
    | zero => rfl
    | succ k =>
      rw [if_neg (Nat.succ_ne_zero k)]
      rfl
theorem links_chain (l : List Int) : links l l.length = chain (Sh70.intAt l (l.length - 1)) l := by
  rw [chain_range]
  unfold links
  congr 1
  apply List.map_congr_left
  intro k _
  by_cases c : k = 0
  · rw [if_pos c, if_pos c]
  · rw [if_neg c, if_neg c]
theorem abs_comm (a b : Int) : ((Sh70.absDiff a b : Nat) : Int) = pair_abs b a := by
  unfold Sh70.absDiff pair_abs
  omega
/-- the specification's pairs: from the first on, then back -/
theorem spec_chain (z : Nat × Int) : ∀ (r : List (Nat × Int)) (a : Nat × Int), (((((a :: r).zip (r ++ [z])).map fun pair => Sh70.absDiff pair.1.2 pair.2.2).sum : Nat) : Int) = chain a.2 (mgs r) + pair_abs z.2 (Sh70.intAt (mgs (a :: r)) r.length)
  | [], a => by
    show ((Sh70.absDiff a.2 z.2 + 0 : Nat) : Int) = 0 + pair_abs z.2 a.2
    rw [Nat.add_zero, abs_comm]
    omega
  | b :: r, a => by
    have ih := spec_chain z r b
    show (((Sh70.absDiff a.2 b.2 :: (((b :: r).zip (r ++ [z])).map fun pair => Sh70.absDiff pair.1.2 pair.2.2)).sum : Nat) : Int) = (pair_abs b.2 a.2 + chain b.2 (mgs r)) + pair_abs z.2 (Sh70.intAt (mgs (b :: r)) r.length)
    rw [List.sum_cons, Int.natCast_add, ih, abs_comm]
    omega
theorem length_is (s : List (Nat × Int)) : ((Sh70.stringLength s : Nat) : Int) = links (mgs s) s.length := by
  cases s with
  | nil => rfl
  | cons a r =>
    have e : (a :: r).length = (mgs (a :: r)).length := by
      unfold mgs
      rw [List.length_map]
    rw [e, links_chain]
    show (((((a :: r).zip (r ++ [a])).map fun pair => Sh70.absDiff pair.1.2 pair.2.2).sum : Nat) : Int) = pair_abs a.2 _ + chain a.2 (mgs r)
    rw [spec_chain a r a, ← e, List.length_cons, Nat.add_sub_cancel]
    omega
theorem pair_abs_bound {a b : Int} (ha : -99999 ≤ a ∧ a ≤ 99999) (hb : -99999 ≤ b ∧ b ≤ 99999) : 0 ≤ pair_abs a b ∧ pair_abs a b ≤ 199998 := by
  unfold pair_abs
  omega
/-- a request that is asked and that the counts let has as many magnitudes as times -/
theorem fold_asked {period : Int} {ts ns : List Int} (h0 : 0 ≤ period) (h : PySh70.fold_asked period ts ns = true) (hl : foldOk period (ts.length : Int) = true) : ts.length = ns.length := by
  have h' : ((Sh70Neutral.fits period 32 && (Sh70Neutral.allFit ts 32 && (Sh70Neutral.allFit ns 32 && (if (Sh70.isAtMost1024 (Sh70Neutral.toNats ts).length && Sh70.isPeriod period.toNat) = true then ts.length == (Sh70Neutral.toNats ts).length && ns.length == (Sh70Neutral.toNats ts).length
    else ((ts.isEmpty && ns.isEmpty) || (ts.length == (Sh70Neutral.toNats ts).length && ns.length == (Sh70Neutral.toNats ts).length)))))) && decide ((Sh70Neutral.f [[5, period], ts, ns]).length < 1000000)) = true := h
  rw [Bool.and_eq_true, Bool.and_eq_true, Bool.and_eq_true, Bool.and_eq_true] at h'
  have h2 := h'.1.2.2.2
  rw [fold_args h0, if_pos hl, Bool.and_eq_true, toNats_len] at h2
  exact (eq_of_beq h2.2).symm
end LC
namespace LC
/-! ### bins -/
def binNo (bins : Nat) (e : Nat × Int) : Nat := e.1 * bins / 65536
/-- the magnitudes of a bin -/
def binAt (bins : Nat) (s : List (Nat × Int)) (b : Nat) : List Int := (s.filter fun e => decide (e.1 * bins / 65536 = b)).map fun e => e.2
theorem binNo_lt {bins : Nat} {e : Nat × Int} (h : e.1 < 65536) (hb : 0 < bins) : binNo bins e < bins := by
  unfold binNo
  rw [Nat.div_lt_iff_lt_mul (by decide), Nat.mul_comm bins 65536]
  exact Nat.mul_lt_mul_of_pos_right h hb
theorem binAt_more {bins : Nat} {s : List (Nat × Int)} {i : Nat} {e : Nat × Int} (h : s[i]? = some e) (b : Nat) : binAt bins (s.take (i + 1)) b = if binNo bins e = b then binAt bins (s.take i) b ++ [e.2] else binAt bins (s.take i) b := by
  unfold binAt binNo
  rw [take_more h, List.filter_append, List.map_append, List.filter_cons]
  by_cases c : e.1 * bins / 65536 = b
  · rw [if_pos (decide_eq_true c), if_pos c]
    rfl
  · rw [if_neg (by rw [decide_eq_false c]; decide), if_neg c]
    show _ ++ [] = _
    rw [List.append_nil]
theorem binAt_len (bins : Nat) (s : List (Nat × Int)) (b : Nat) : (binAt bins s b).length ≤ s.length := by
  unfold binAt
  rw [List.length_map]
  exact List.length_filter_le _ _
theorem binAt_mem {bins : Nat} {s : List (Nat × Int)} {b : Nat} {x : Int} (h : x ∈ binAt bins s b) : ∃ e, e ∈ s ∧ x = e.2 := by
  unfold binAt at h
  obtain ⟨e, he, rfl⟩ := List.mem_map.mp h
  exact ⟨e, (List.mem_filter.mp he).1, rfl⟩
/-- the bins as lists -/
def binsI (bins : Nat) (s : List (Nat × Int)) : List (List Int) := (List.range bins).map (binAt bins s)
theorem binsI_get {bins : Nat} {s : List (Nat × Int)} {b : Nat} (h : b < bins) : (binsI bins s)[b]? = some (binAt bins s b) := by
  unfold binsI
  rw [List.getElem?_map, List.getElem?_range h]
  rfl
theorem binsI_len (bins : Nat) (s : List (Nat × Int)) : (binsI bins s).length = bins := by
  unfold binsI
  rw [List.length_map, List.length_range]
/-! ### binned scatter -/
/-- what a bin adds -/
def binVal (l : List Int) : Int := spr l / (l.length : Int)
theorem sum_given (p : Nat → Bool) (g : Nat → Int) : ∀ l : List Nat, ((l.filter p).map g).sum = (l.map fun i => if p i = true then g i else 0).sum
  | [] => rfl
  | x :: r => by
    have ih := sum_given p g r
    rw [List.filter_cons, List.map_cons, List.sum_cons]
    by_cases c : p x = true
    · rw [if_pos c, if_pos c, List.map_cons, List.sum_cons, ih]
    · rw [if_neg c, if_neg c, ih, Int.zero_add]
theorem cast_sum (f : Nat → Nat) : ∀ l : List Nat, (((l.map f).sum : Nat) : Int) = (l.map fun i => ((f i : Nat) : Int)).sum
  | [] => rfl
  | x :: r => by
    rw [List.map_cons, List.sum_cons, List.map_cons, List.sum_cons, Int.natCast_add, cast_sum f r]
def notNil (l : List Int) : Bool := decide (l ≠ [])
theorem binned_is (bins : Nat) (s : List (Nat × Int)) : ((Sh70.binnedScatter bins s : Nat) : Int) = (((List.range bins).filter fun b => notNil (binAt bins s b)).map fun b => binVal (binAt bins s b)).sum := by
  rw [sum_given]
  show ((((List.range bins).map fun bin => if (binAt bins s bin).length = 0 then 0 else (spr (binAt bins s bin) / (((binAt bins s bin).length : Nat) : Int)).toNat).sum : Nat) : Int) = _
  rw [cast_sum]
  congr 1
  apply List.map_congr_left
  intro b _
  by_cases c : binAt bins s b = []
  · rw [c]
    rfl
  · have c2 : ¬ (binAt bins s b).length = 0 := fun z => c (List.eq_nil_of_length_eq_zero z)
    rw [if_neg c2, if_pos (show notNil (binAt bins s b) = true from decide_eq_true c)]
    exact Int.toNat_of_nonneg (Int.ediv_nonneg (spr_nonneg _) (by omega))
theorem binVal_bound {l : List Int} (h : ∀ x ∈ l, -99999 ≤ x ∧ x ≤ 99999) (hl : l.length ≤ 1024) : 0 ≤ binVal l ∧ binVal l ≤ 10239795201024 := by
  unfold binVal
  have s := spr_le h
  have p := spr_nonneg l
  rcases Nat.eq_zero_or_pos l.length with z | z
  · rw [z]
    simp
  · refine ⟨Int.ediv_nonneg p (by omega), ?_⟩
    refine Int.ediv_le_of_le_mul (by omega) ?_
    have m : (99999 * 99999 : Int) * ((l.length : Int) * (l.length : Int)) = (99999 * 99999 * (l.length : Int)) * (l.length : Int) := (Int.mul_assoc _ _ _).symm
    rw [m] at s
    refine Int.le_trans s (Int.mul_le_mul_of_nonneg_right (by omega) (by omega))
/-! ### search -/
def bestTo (values : List Nat) (i : Nat) : Nat := (List.range i).foldl (fun (best : Nat) (i : Nat) => if Sh70.natAt values i < Sh70.natAt values best then i else best) 0
theorem best_more (values : List Nat) (i : Nat) : bestTo values (i + 1) = if Sh70.natAt values i < Sh70.natAt values (bestTo values i) then i else bestTo values i := by
  unfold bestTo
  rw [List.range_succ, List.foldl_append]
  rfl
theorem best_lt (values : List Nat) : ∀ i, bestTo values i = 0 ∨ bestTo values i < i
  | 0 => .inl rfl
  | i + 1 => by
    rw [best_more]
    split
    · exact .inr (Nat.lt_succ_self i)
    · rcases best_lt values i with h | h
      · exact .inl h
      · exact .inr (Nat.lt_succ_of_lt h)
theorem best_all (values : List Nat) : bestTo values values.length = Sh70.smallestIndex values := rfl
/-- the value of a trial period -/
def valOf (crit bins : Nat) (s : List (Nat × Int)) : Nat := if crit = 0 then Sh70.stringLength s else Sh70.binnedScatter bins s
theorem search_get {crit bins first step count : Nat} {ts : List Nat} {ms : List Int} {i : Nat} (h : i < count) : (Sh70.searchPeriods crit bins first step count ts ms)[i]? = some (valOf crit bins (Sh70.fold (first + i * step) ts ms)) := by
  unfold Sh70.searchPeriods Sh70.trialPeriods
  rw [List.getElem?_map, List.getElem?_map, List.getElem?_range h]
  rfl
theorem search_len {crit bins first step count : Nat} {ts : List Nat} {ms : List Int} : (Sh70.searchPeriods crit bins first step count ts ms).length = count := by
  unfold Sh70.searchPeriods Sh70.trialPeriods
  rw [List.length_map, List.length_map, List.length_range]
theorem range_sum_bound {f : Nat → Int} {b : Int} : ∀ {n : Nat}, (∀ i, i < n → 0 ≤ f i ∧ f i ≤ b) → 0 ≤ ((List.range n).map f).sum ∧ ((List.range n).map f).sum ≤ b * (n : Int)
  | 0, _ => by simp
  | n + 1, h => by
    have ih := range_sum_bound (n := n) fun i hi => h i (Nat.lt_succ_of_lt hi)
    have h0 := h n (Nat.lt_succ_self n)
    rw [List.range_succ, List.map_append, List.sum_append, List.map_singleton, List.sum_singleton]
    have e : b * ((n + 1 : Nat) : Int) = b * (n : Int) + b := by
      rw [Int.natCast_add, Int.mul_add]
      simp
    rw [e]
    omega
theorem string_bound {s : List (Nat × Int)} (h : ∀ e ∈ s, -99999 ≤ e.2 ∧ e.2 ≤ 99999) : ((Sh70.stringLength s : Nat) : Int) ≤ 199998 * (s.length : Int) := by
  rw [length_is]
  have g : ∀ k, -99999 ≤ Sh70.intAt (mgs s) k ∧ Sh70.intAt (mgs s) k ≤ 99999 := fun k => by
    by_cases c : k < (mgs s).length
    · obtain ⟨e, he, e2⟩ := List.mem_map.mp (intAt_mem c)
      have e3 : Sh70.intAt (mgs s) k = e.2 := e2.symm
      rw [e3]
      exact h e he
    · have z : Sh70.intAt (mgs s) k = 0 := by
        unfold Sh70.intAt
        rw [List.getD_eq_getElem?_getD, List.getElem?_eq_none (by omega)]
        rfl
      rw [z]
      decide
  exact (range_sum_bound (n := s.length) fun k _ => pair_abs_bound (g k) (g _)).2
theorem given_as_range (p : Nat → Bool) (g : Nat → Int) (n : Nat) : (((List.range n).filter p).map g).sum = ((List.range n).map fun i => if p i = true then g i else 0).sum := sum_given p g _
theorem binned_bound {bins : Nat} {s : List (Nat × Int)} (h : ∀ e ∈ s, -99999 ≤ e.2 ∧ e.2 ≤ 99999) (hl : s.length ≤ 1024) : ((Sh70.binnedScatter bins s : Nat) : Int) ≤ 10239795201024 * (bins : Int) := by
  rw [binned_is, sum_given]
  refine (range_sum_bound (n := bins) fun b _ => ?_).2
  split
  · refine binVal_bound (fun x hx => ?_) (Nat.le_trans (binAt_len bins s b) hl)
    obtain ⟨e, he, rfl⟩ := binAt_mem hx
    exact h e he
  · decide
theorem val_bound {crit bins : Nat} {s : List (Nat × Int)} (h : ∀ e ∈ s, -99999 ≤ e.2 ∧ e.2 ≤ 99999) (hl : s.length ≤ 1024) (hb : bins ≤ 64) : valOf crit bins s < 18446744073709551616 := by
  unfold valOf
  have a := string_bound h
  have b := binned_bound (bins := bins) h hl
  split <;> omega
/-! ### what is due of search_periods -/
def searchOk (crit bins first step trials len : Int) : Bool := decide (crit ≤ 1) && (decide (1 ≤ bins) && decide (bins ≤ 64)) && (decide (1 ≤ trials) && decide (trials ≤ 64)) && (decide (1 ≤ first) && decide (first ≤ 16777216)) && decide (step ≤ 65536) && decide (len ≤ 1024)
section
variable {crit bins first step trials : Int} {ts ns : List Int}
theorem search_args (h0 : 0 ≤ crit) (h1 : 0 ≤ bins) (h2 : 0 ≤ first) (h3 : 0 ≤ step) (h4 : 0 ≤ trials) :
    (Sh70.isAtMost1024 (Sh70Neutral.toNats ts).length && (decide (crit.toNat ≤ 1) && (Sh70.isBetween bins.toNat 1 64 && (Sh70.isPeriod first.toNat && (decide (step.toNat ≤ 65536) && Sh70.isBetween trials.toNat 1 64))))) = searchOk crit bins first step trials (ts.length : Int) := by
  rw [toNats_len, Bool.eq_iff_iff]
  unfold Sh70.isAtMost1024 Sh70.isPeriod Sh70.isBetween searchOk
  simp only [Bool.and_eq_true, decide_eq_true_eq]
  omega
theorem search_bad (h0 : 0 ≤ crit) (h1 : 0 ≤ bins) (h2 : 0 ≤ first) (h3 : 0 ≤ step) (h4 : 0 ≤ trials) (h : searchOk crit bins first step trials (ts.length : Int) = false) : PySh70.search_periods crit bins first step trials ts ns = [-2] := by
  show (match (some (if (Sh70.isAtMost1024 (Sh70Neutral.toNats ts).length && (decide (crit.toNat ≤ 1) && (Sh70.isBetween bins.toNat 1 64 && (Sh70.isPeriod first.toNat && (decide (step.toNat ≤ 65536) && Sh70.isBetween trials.toNat 1 64))))) = true then Sh70.Call.searchPeriods crit.toNat bins.toNat first.toNat step.toNat trials.toNat (Sh70Neutral.toNats ts) (Sh70.signedWords (Sh70Neutral.toNats ns)) else .invalid) : Option Sh70.Call) with | none => [] | some parsed => Sh70Neutral.flatten (Sh70.answer parsed)) = _
  rw [search_args h0 h1 h2 h3 h4, h]
  rfl
theorem search_mag (h0 : 0 ≤ crit) (h1 : 0 ≤ bins) (h2 : 0 ≤ first) (h3 : 0 ≤ step) (h4 : 0 ≤ trials) (hn : ∀ n ∈ ns, 0 ≤ n) (h : searchOk crit bins first step trials (ts.length : Int) = true) (hm : Sh70.areValidMagnitudes (ns.map sg) = false) : PySh70.search_periods crit bins first step trials ts ns = [-3] := by
  show (match (some (if (Sh70.isAtMost1024 (Sh70Neutral.toNats ts).length && (decide (crit.toNat ≤ 1) && (Sh70.isBetween bins.toNat 1 64 && (Sh70.isPeriod first.toNat && (decide (step.toNat ≤ 65536) && Sh70.isBetween trials.toNat 1 64))))) = true then Sh70.Call.searchPeriods crit.toNat bins.toNat first.toNat step.toNat trials.toNat (Sh70Neutral.toNats ts) (Sh70.signedWords (Sh70Neutral.toNats ns)) else .invalid) : Option Sh70.Call) with | none => [] | some parsed => Sh70Neutral.flatten (Sh70.answer parsed)) = _
  rw [search_args h0 h1 h2 h3 h4, h, if_pos rfl, sg_words hn]
  show Sh70Neutral.flatten (if Sh70.areValidMagnitudes (ns.map sg) = false then Sh70.errorAnswer (-3) else _) = _
  rw [if_pos hm]
  rfl
theorem search_ok (h0 : 0 ≤ crit) (h1 : 0 ≤ bins) (h2 : 0 ≤ first) (h3 : 0 ≤ step) (h4 : 0 ≤ trials) (hn : ∀ n ∈ ns, 0 ≤ n) (h : searchOk crit bins first step trials (ts.length : Int) = true) (hm : Sh70.areValidMagnitudes (ns.map sg) = true) :
    PySh70.search_periods crit bins first step trials ts ns = [((Sh70.smallestIndex (Sh70.searchPeriods crit.toNat bins.toNat first.toNat step.toNat trials.toNat (Sh70Neutral.toNats ts) (ns.map sg)) : Nat) : Int)] ++ (Sh70.searchPeriods crit.toNat bins.toNat first.toNat step.toNat trials.toNat (Sh70Neutral.toNats ts) (ns.map sg)).map fun v : Nat => (v : Int) := by
  show (match (some (if (Sh70.isAtMost1024 (Sh70Neutral.toNats ts).length && (decide (crit.toNat ≤ 1) && (Sh70.isBetween bins.toNat 1 64 && (Sh70.isPeriod first.toNat && (decide (step.toNat ≤ 65536) && Sh70.isBetween trials.toNat 1 64))))) = true then Sh70.Call.searchPeriods crit.toNat bins.toNat first.toNat step.toNat trials.toNat (Sh70Neutral.toNats ts) (Sh70.signedWords (Sh70Neutral.toNats ns)) else .invalid) : Option Sh70.Call) with | none => [] | some parsed => Sh70Neutral.flatten (Sh70.answer parsed)) = _
  rw [search_args h0 h1 h2 h3 h4, h, if_pos rfl, sg_words hn]
  show Sh70Neutral.flatten (if Sh70.areValidMagnitudes (ns.map sg) = false then Sh70.errorAnswer (-3) else _) = _
  rw [if_neg (by rw [hm]; decide)]
  rfl
end
theorem search_asked {crit bins first step trials : Int} {ts ns : List Int} (h0 : 0 ≤ crit) (h1 : 0 ≤ bins) (h2 : 0 ≤ first) (h3 : 0 ≤ step) (h4 : 0 ≤ trials) (h : PySh70.search_periods_asked crit bins first step trials ts ns = true) (hl : searchOk crit bins first step trials (ts.length : Int) = true) : ts.length = ns.length := by
  have h' : ((Sh70Neutral.fits crit 32 && (Sh70Neutral.fits bins 32 && (Sh70Neutral.fits first 32 && (Sh70Neutral.fits step 32 && (Sh70Neutral.fits trials 32 && (Sh70Neutral.allFit ts 32 && (Sh70Neutral.allFit ns 32 &&
    (if (Sh70.isAtMost1024 (Sh70Neutral.toNats ts).length && (decide (crit.toNat ≤ 1) && (Sh70.isBetween bins.toNat 1 64 && (Sh70.isPeriod first.toNat && (decide (step.toNat ≤ 65536) && Sh70.isBetween trials.toNat 1 64))))) = true then ts.length == (Sh70Neutral.toNats ts).length && ns.length == (Sh70Neutral.toNats ts).length
    else ((ts.isEmpty && ns.isEmpty) || (ts.length == (Sh70Neutral.toNats ts).length && ns.length == (Sh70Neutral.toNats ts).length)))))))))) && decide ((Sh70Neutral.f [[6, crit, bins, first, step, trials], ts, ns]).length < 1000000)) = true := h
  rw [Bool.and_eq_true, Bool.and_eq_true, Bool.and_eq_true, Bool.and_eq_true, Bool.and_eq_true, Bool.and_eq_true, Bool.and_eq_true, Bool.and_eq_true] at h'
  have h5 := h'.1.2.2.2.2.2.2.2
  rw [search_args h0 h1 h2 h3 h4, if_pos hl, Bool.and_eq_true, toNats_len] at h5
  exact (eq_of_beq h5.2).symm
theorem search_is {crit bins first step count : Nat} {ts : List Nat} {ms : List Int} : Sh70.searchPeriods crit bins first step count ts ms = (List.range count).map fun i => valOf crit bins (Sh70.fold (first + i * step) ts ms) := by
  unfold Sh70.searchPeriods Sh70.trialPeriods
  rw [List.map_map]
  rfl
end LC
namespace LC
/-! ### boxes -/
/-- the sum over the first n numbers -/
def rsum (n : Nat) (f : Nat → Int) : Int := ((List.range n).map f).sum
theorem rsum_succ (n : Nat) (f : Nat → Int) : rsum (n + 1) f = rsum n f + f n := by
  unfold rsum
  rw [List.range_succ, List.map_append, List.sum_append, List.map_singleton, List.sum_singleton]
theorem rsum_add (f g : Nat → Int) : ∀ n, rsum n (fun i => f i + g i) = rsum n f + rsum n g
  | 0 => rfl
  | n + 1 => by
    rw [rsum_succ, rsum_succ, rsum_succ, rsum_add f g n]
    omega
theorem rsum_congr {f g : Nat → Int} : ∀ {n : Nat}, (∀ i, i < n → f i = g i) → rsum n f = rsum n g
  | 0, _ => rfl
  | n + 1, h => by
    rw [rsum_succ, rsum_succ, rsum_congr (n := n) fun i hi => h i (Nat.lt_succ_of_lt hi), h n (Nat.lt_succ_self n)]
/-- what the magnitudes weigh -/
def gsum (g : Int → Int) (l : List Int) : Int := (l.map g).sum
theorem gsum_cons (g : Int → Int) (x : Int) (l : List Int) : gsum g (x :: l) = g x + gsum g l := by
  unfold gsum
  rw [List.map_cons, List.sum_cons]
theorem place_iff {bins start k j : Nat} (hs : start < bins) (hk : k < bins) (hj : j < bins) : (start + j) % bins = k ↔ (k + bins - start) % bins = j := by
  constructor
  · intro h
    by_cases c : start + j < bins
    · rw [Nat.mod_eq_of_lt c] at h
      have e : k + bins - start = j + bins := by omega
      rw [e, Nat.add_mod_right, Nat.mod_eq_of_lt hj]
    · have e0 : (start + j) % bins = start + j - bins := by
        rw [Nat.mod_eq_sub_mod (by omega), Nat.mod_eq_of_lt (by omega)]
      have e : k + bins - start = j := by omega
      rw [e, Nat.mod_eq_of_lt hj]
  · intro h
    by_cases c : k + bins - start < bins
    · rw [Nat.mod_eq_of_lt c] at h
      have e : start + j = k + bins := by omega
      rw [e, Nat.add_mod_right, Nat.mod_eq_of_lt hk]
    · have e0 : (k + bins - start) % bins = k + bins - start - bins := by
        rw [Nat.mod_eq_sub_mod (by omega), Nat.mod_eq_of_lt (by omega)]
      have e : start + j = k := by omega
      rw [e, Nat.mod_eq_of_lt hk]
theorem one_bin {bins start k : Nat} (hs : start < bins) (hk : k < bins) (x : Int) : ∀ {w : Nat}, w ≤ bins → rsum w (fun j => if k = (start + j) % bins then x else 0) = if (k + bins - start) % bins < w then x else 0
  | 0, _ => by
    rw [if_neg (Nat.not_lt_zero _)]
    rfl
  | w + 1, h => by
    rw [rsum_succ, one_bin hs hk x (w := w) (by omega)]
    have p := place_iff hs hk (show w < bins by omega)
    by_cases c : k = (start + w) % bins
    · have c2 := p.mp c.symm
      rw [if_pos c, if_neg (by omega), if_pos (by omega), Int.zero_add]
    · have c2 : ¬ (k + bins - start) % bins = w := fun z => c (p.mpr z).symm
      rw [if_neg c, Int.add_zero]
      by_cases d : (k + bins - start) % bins < w
      · rw [if_pos d, if_pos (by omega)]
      · rw [if_neg d, if_neg (by omega)]
theorem binAt_cons (bins : Nat) (e : Nat × Int) (s : List (Nat × Int)) (b : Nat) (g : Int → Int) : gsum g (binAt bins (e :: s) b) = (if binNo bins e = b then g e.2 else 0) + gsum g (binAt bins s b) := by
  unfold binAt binNo
  rw [List.filter_cons]
  by_cases c : e.1 * bins / 65536 = b
  · rw [if_pos (decide_eq_true c), if_pos c, List.map_cons, gsum_cons]
  · rw [if_neg (by rw [decide_eq_false c]; decide), if_neg c, Int.zero_add]
/-- the bins of a box hold its entries -/
theorem box_sum {bins start w : Nat} (g : Int → Int) (hs : start < bins) : ∀ {s : List (Nat × Int)}, (∀ e ∈ s, e.1 < 65536) →
    rsum (min w bins) (fun j => gsum g (binAt bins s ((start + j) % bins))) = gsum g ((s.filter (Sh70.isInBox bins start w)).map fun e => e.2)
  | [], _ => by
    have e : rsum (min w bins) (fun j => gsum g (binAt bins [] ((start + j) % bins))) = rsum (min w bins) fun _ => 0 := rsum_congr fun _ _ => rfl
    rw [e]
    show rsum (min w bins) (fun _ => 0) = 0
    generalize min w bins = n
    induction n with
    | zero => rfl
    | succ n ih => rw [rsum_succ, ih] <;> rfl
  | e :: s, h => by
    have ih := box_sum (w := w) g hs (s := s) fun x hx => h x (List.mem_cons_of_mem _ hx)
    have hk : binNo bins e < bins := binNo_lt (h e (List.mem_cons_self ..)) (by omega)
    have e1 : rsum (min w bins) (fun j => gsum g (binAt bins (e :: s) ((start + j) % bins))) = rsum (min w bins) fun j => (if binNo bins e = (start + j) % bins then g e.2 else 0) + gsum g (binAt bins s ((start + j) % bins)) := rsum_congr fun j _ => binAt_cons bins e s _ g
    rw [e1, rsum_add, ih, one_bin hs hk (g e.2) (Nat.min_le_right w bins), List.filter_cons]
    have m : (binNo bins e + bins - start) % bins < bins := Nat.mod_lt _ (by omega)
    by_cases c : (binNo bins e + bins - start) % bins < w
    · have c2 : Sh70.isInBox bins start w e = true := decide_eq_true c
      rw [if_pos (by omega), if_pos c2, List.map_cons, gsum_cons]
    · have c2 : ¬ Sh70.isInBox bins start w e = true := fun z => c (of_decide_eq_true z)
      rw [if_neg (by omega), if_neg c2, Int.zero_add]
/-- all bins hold all entries -/
theorem all_sum {bins : Nat} (g : Int → Int) (hb : 0 < bins) {s : List (Nat × Int)} (h : ∀ e ∈ s, e.1 < 65536) : rsum bins (fun j => gsum g (binAt bins s j)) = gsum g (mgs s) := by
  have b := box_sum (w := bins) g hb h
  rw [Nat.min_self] at b
  have e1 : rsum bins (fun j => gsum g (binAt bins s ((0 + j) % bins))) = rsum bins fun j => gsum g (binAt bins s j) := rsum_congr fun j hj => by
    rw [Nat.zero_add, Nat.mod_eq_of_lt hj]
  have e2 : s.filter (Sh70.isInBox bins 0 bins) = s := List.filter_eq_self.mpr fun e _ => decide_eq_true (Nat.mod_lt _ hb)
  rw [e1, e2] at b
  exact b
theorem split_sum (g : Int → Int) (p : Nat × Int → Bool) : ∀ s : List (Nat × Int), gsum g ((s.filter p).map fun e => e.2) + gsum g ((s.filter fun e => !p e).map fun e => e.2) = gsum g (mgs s)
  | [] => rfl
  | e :: s => by
    have ih := split_sum g p s
    have e0 : gsum g (mgs (e :: s)) = g e.2 + gsum g (mgs s) := gsum_cons g e.2 (mgs s)
    rw [e0, List.filter_cons, List.filter_cons]
    cases c : p e with
    | true =>
      rw [if_pos rfl, if_neg (by decide), List.map_cons, gsum_cons]
      omega
    | false =>
      rw [if_neg (by decide), if_pos (by decide), List.map_cons, gsum_cons]
      omega
theorem gsum_one : ∀ l : List Int, gsum (fun _ => 1) l = (l.length : Int)
  | [] => rfl
  | x :: r => by
    rw [gsum_cons, gsum_one r, List.length_cons]
    omega
theorem gsum_id (l : List Int) : gsum (fun x => x) l = l.sum := by
  unfold gsum
  rw [show l.map (fun x => x) = l from List.map_id l]
/-- how many there are in each bin, and their sums -/
def cntI (bins : Nat) (s : List (Nat × Int)) : List Int := (List.range bins).map fun b => ((binAt bins s b).length : Int)
def totI (bins : Nat) (s : List (Nat × Int)) : List Int := (List.range bins).map fun b => (binAt bins s b).sum
/-- the depth of a box, as the program tells it -/
def depthI (bins start w : Nat) (s : List (Nat × Int)) : Int :=
  let count := rsum (min w bins) fun j => ((binAt bins s ((start + j) % bins)).length : Int)
  let total := rsum (min w bins) fun j => (binAt bins s ((start + j) % bins)).sum
  let others := (cntI bins s).sum - count
  let rest := (totI bins s).sum - total
  if 0 < count ∧ 0 < others then total * others - rest * count else 0
theorem depth_is {bins start w : Nat} {s : List (Nat × Int)} (hs : start < bins) (h : ∀ e ∈ s, e.1 < 65536) : depthI bins start w s = Sh70.boxDepth bins start w s := by
  have a1 := box_sum (w := w) (fun _ => 1) hs h
  have a2 := box_sum (w := w) (fun x => x) hs h
  have b1 := all_sum (bins := bins) (fun _ => 1) (by omega) h
  have b2 := all_sum (bins := bins) (fun x => x) (by omega) h
  have c1 := split_sum (fun _ => 1) (Sh70.isInBox bins start w) s
  have c2 := split_sum (fun x => x) (Sh70.isInBox bins start w) s
  simp only [gsum_one] at a1 b1 c1
  simp only [gsum_id] at a2 b2 c2
  have t1 : (cntI bins s).sum = ((mgs s).length : Int) := b1
  have t2 : (totI bins s).sum = (mgs s).sum := b2
  unfold depthI Sh70.boxDepth
  simp only [a1, a2, t1, t2]
  generalize (s.filter (Sh70.isInBox bins start w)).map (fun entry => entry.2) = ins at *
  generalize (s.filter fun entry => !Sh70.isInBox bins start w entry).map (fun entry => entry.2) = outs at *
  have d1 : ((mgs s).length : Int) - (ins.length : Int) = (outs.length : Int) := by omega
  have d2 : (mgs s).sum - ins.sum = outs.sum := by omega
  rw [d1, d2]
  by_cases z : ins.length = 0 ∨ outs.length = 0
  · rw [if_pos z, if_neg (by omega)]
  · rw [if_neg z, if_pos (by omega)]
    rfl
/-! ### the best box -/
abbrev Box := Nat × Nat × Int
def boxTurn (bins : Nat) (s : List (Nat × Int)) (best : Box) (box : Nat × Nat) : Box := let depth := Sh70.boxDepth bins box.1 box.2 s
  if best.2.2 < depth then (box.1, box.2, depth) else best
def boxRow (bins w : Nat) : List (Nat × Nat) := (List.range bins).map fun start => (start, w + 1)
/-- behind the first w widths -/
def boxTo (bins : Nat) (s : List (Nat × Int)) (w : Nat) : Box := ((List.range w).flatMap (boxRow bins)).foldl (boxTurn bins s) (0, 0, 0)
/-- and j starts of the next -/
def boxIn (bins : Nat) (s : List (Nat × Int)) (w j : Nat) : Box := ((List.range j).map fun start => (start, w + 1)).foldl (boxTurn bins s) (boxTo bins s w)
theorem boxIn_zero (bins : Nat) (s : List (Nat × Int)) (w : Nat) : boxIn bins s w 0 = boxTo bins s w := rfl
theorem boxIn_more (bins : Nat) (s : List (Nat × Int)) (w j : Nat) : boxIn bins s w (j + 1) = boxTurn bins s (boxIn bins s w j) (j, w + 1) := by
  unfold boxIn
  rw [List.range_succ, List.map_append, List.foldl_append]
  rfl
theorem boxTo_more (bins : Nat) (s : List (Nat × Int)) (w : Nat) : boxTo bins s (w + 1) = boxIn bins s w bins := by
  unfold boxTo boxIn
  rw [List.range_succ, List.flatMap_append, List.foldl_append]
  congr 1
  show [w].flatMap (boxRow bins) = _
  rw [List.flatMap_cons, List.flatMap_nil, List.append_nil]
  rfl
theorem box_all (bins most : Nat) (s : List (Nat × Int)) : boxTo bins s most = Sh70.bestBox bins most s := rfl
/-- the bounds that the program's own sums keep -/
structure BoxOk (b : Box) : Prop where
  start : b.1 ≤ 64
  width : b.2.1 ≤ 64
  depth : 0 ≤ b.2.2
theorem turn_ok {bins : Nat} {s : List (Nat × Int)} {b : Box} {x : Nat × Nat} (h : BoxOk b) (h1 : x.1 ≤ 64) (h2 : x.2 ≤ 64) : BoxOk (boxTurn bins s b x) := by
  have d := h.depth
  show BoxOk (if b.2.2 < Sh70.boxDepth bins x.1 x.2 s then (x.1, x.2, Sh70.boxDepth bins x.1 x.2 s) else b)
  split
  · rename_i c
    exact ⟨h1, h2, by show 0 ≤ Sh70.boxDepth bins x.1 x.2 s; omega⟩
  · exact h
theorem in_ok {bins w : Nat} {s : List (Nat × Int)} (hw : w < 64) (h : BoxOk (boxTo bins s w)) : ∀ {j : Nat}, j ≤ 64 → BoxOk (boxIn bins s w j)
  | 0, _ => h
  | j + 1, hj => by
    rw [boxIn_more]
    exact turn_ok (in_ok hw h (by omega)) (by show j ≤ 64; omega) (by show w + 1 ≤ 64; omega)
theorem to_ok {bins : Nat} {s : List (Nat × Int)} (hb : bins ≤ 64) : ∀ {w : Nat}, w ≤ 64 → BoxOk (boxTo bins s w)
  | 0, _ => ⟨Nat.zero_le _, Nat.zero_le _, Int.le_refl _⟩
  | w + 1, h => by
    rw [boxTo_more]
    exact in_ok (by omega) (to_ok hb (by omega)) hb
/-! ### what is due of best_box -/
def boxArgs (period bins most len : Int) : Bool := (decide (1 ≤ period) && decide (period ≤ 16777216)) && ((decide (1 ≤ bins) && decide (bins ≤ 64)) && (decide (1 ≤ most) && decide (most ≤ 64))) && decide (len ≤ 1024)
section
variable {period bins most : Int} {ts ns : List Int}
theorem box_args (h0 : 0 ≤ period) (h1 : 0 ≤ bins) (h2 : 0 ≤ most) :
    (Sh70.isAtMost1024 (Sh70Neutral.toNats ts).length && (Sh70.isPeriod period.toNat && (Sh70.isBetween bins.toNat 1 64 && Sh70.isBetween most.toNat 1 64))) = boxArgs period bins most (ts.length : Int) := by
  rw [toNats_len, Bool.eq_iff_iff]
  unfold Sh70.isAtMost1024 Sh70.isPeriod Sh70.isBetween boxArgs
  simp only [Bool.and_eq_true, decide_eq_true_eq]
  omega
theorem box_bad (h0 : 0 ≤ period) (h1 : 0 ≤ bins) (h2 : 0 ≤ most) (h : boxArgs period bins most (ts.length : Int) = false) : PySh70.best_box period bins most ts ns = [-2] := by
  show (match (some (if (Sh70.isAtMost1024 (Sh70Neutral.toNats ts).length && (Sh70.isPeriod period.toNat && (Sh70.isBetween bins.toNat 1 64 && Sh70.isBetween most.toNat 1 64))) = true then Sh70.Call.bestBox period.toNat bins.toNat most.toNat (Sh70Neutral.toNats ts) (Sh70.signedWords (Sh70Neutral.toNats ns)) else .invalid) : Option Sh70.Call) with | none => [] | some parsed => Sh70Neutral.flatten (Sh70.answer parsed)) = _
  rw [box_args h0 h1 h2, h]
  rfl
theorem box_mag (h0 : 0 ≤ period) (h1 : 0 ≤ bins) (h2 : 0 ≤ most) (hn : ∀ n ∈ ns, 0 ≤ n) (h : boxArgs period bins most (ts.length : Int) = true) (hm : Sh70.areValidMagnitudes (ns.map sg) = false) : PySh70.best_box period bins most ts ns = [-3] := by
  show (match (some (if (Sh70.isAtMost1024 (Sh70Neutral.toNats ts).length && (Sh70.isPeriod period.toNat && (Sh70.isBetween bins.toNat 1 64 && Sh70.isBetween most.toNat 1 64))) = true then Sh70.Call.bestBox period.toNat bins.toNat most.toNat (Sh70Neutral.toNats ts) (Sh70.signedWords (Sh70Neutral.toNats ns)) else .invalid) : Option Sh70.Call) with | none => [] | some parsed => Sh70Neutral.flatten (Sh70.answer parsed)) = _
  rw [box_args h0 h1 h2, h, if_pos rfl, sg_words hn]
  show Sh70Neutral.flatten (if Sh70.areValidMagnitudes (ns.map sg) = false then Sh70.errorAnswer (-3) else _) = _
  rw [if_pos hm]
  rfl
def boxI (b : Box) : List Int := [(b.1 : Int), (b.2.1 : Int), b.2.2]
theorem box_ok (h0 : 0 ≤ period) (h1 : 0 ≤ bins) (h2 : 0 ≤ most) (hn : ∀ n ∈ ns, 0 ≤ n) (h : boxArgs period bins most (ts.length : Int) = true) (hm : Sh70.areValidMagnitudes (ns.map sg) = true) :
    PySh70.best_box period bins most ts ns = [0] ++ (boxI (Sh70.bestBox bins.toNat most.toNat (Sh70.fold period.toNat (Sh70Neutral.toNats ts) (ns.map sg)))).map fun z => z % 18446744073709551616 := by
  show (match (some (if (Sh70.isAtMost1024 (Sh70Neutral.toNats ts).length && (Sh70.isPeriod period.toNat && (Sh70.isBetween bins.toNat 1 64 && Sh70.isBetween most.toNat 1 64))) = true then Sh70.Call.bestBox period.toNat bins.toNat most.toNat (Sh70Neutral.toNats ts) (Sh70.signedWords (Sh70Neutral.toNats ns)) else .invalid) : Option Sh70.Call) with | none => [] | some parsed => Sh70Neutral.flatten (Sh70.answer parsed)) = _
  rw [box_args h0 h1 h2, h, if_pos rfl, sg_words hn]
  show Sh70Neutral.flatten (if Sh70.areValidMagnitudes (ns.map sg) = false then Sh70.errorAnswer (-3) else _) = _
  rw [if_neg (by rw [hm]; decide)]
  generalize Sh70.fold period.toNat (Sh70Neutral.toNats ts) (ns.map sg) = s
  have a : boxArgs period bins most (ts.length : Int) = true := h
  unfold boxArgs at a
  simp only [Bool.and_eq_true, decide_eq_true_eq] at a
  have k : BoxOk (Sh70.bestBox bins.toNat most.toNat s) := by
    rw [← box_all]
    exact to_ok (by omega) (by omega)
  generalize Sh70.bestBox bins.toNat most.toNat s = b at k
  obtain ⟨x, y, z⟩ := b
  have k1 : x ≤ 64 := k.start
  have k2 : y ≤ 64 := k.width
  show [(0 : Int), (x : Int), (y : Int), ((Sh70.word64 z : Nat) : Int)] = [0, (x : Int) % 18446744073709551616, (y : Int) % 18446744073709551616, z % 18446744073709551616]
  rw [w64, Int.emod_eq_of_lt (a := (x : Int)) (by omega) (by omega), Int.emod_eq_of_lt (a := (y : Int)) (by omega) (by omega)]
end
theorem box_asked {period bins most : Int} {ts ns : List Int} (h0 : 0 ≤ period) (h1 : 0 ≤ bins) (h2 : 0 ≤ most) (h : PySh70.best_box_asked period bins most ts ns = true) (hl : boxArgs period bins most (ts.length : Int) = true) : ts.length = ns.length := by
  have h' : ((Sh70Neutral.fits period 32 && (Sh70Neutral.fits bins 32 && (Sh70Neutral.fits most 32 && (Sh70Neutral.allFit ts 32 && (Sh70Neutral.allFit ns 32 &&
    (if (Sh70.isAtMost1024 (Sh70Neutral.toNats ts).length && (Sh70.isPeriod period.toNat && (Sh70.isBetween bins.toNat 1 64 && Sh70.isBetween most.toNat 1 64))) = true then ts.length == (Sh70Neutral.toNats ts).length && ns.length == (Sh70Neutral.toNats ts).length
    else ((ts.isEmpty && ns.isEmpty) || (ts.length == (Sh70Neutral.toNats ts).length && ns.length == (Sh70Neutral.toNats ts).length)))))))) && decide ((Sh70Neutral.f [[7, period, bins, most], ts, ns]).length < 1000000)) = true := h
  rw [Bool.and_eq_true, Bool.and_eq_true, Bool.and_eq_true, Bool.and_eq_true, Bool.and_eq_true, Bool.and_eq_true] at h'
  have h5 := h'.1.2.2.2.2.2
  rw [box_args h0 h1 h2, if_pos hl, Bool.and_eq_true, toNats_len] at h5
  exact (eq_of_beq h5.2).symm
end LC
set_option Elab.async false
set_option maxRecDepth 100000
set_option maxHeartbeats 2000000
namespace LC
open PySem PySem.Spec PyProof.Rows L2 Evl
/-! ### whole numbers of the module's top -/
def GI (mg : Str → Option Value) (x : Str) (n : Int) : Prop := ∃ t, mg x = some (.int n t)
theorem pe_gi {X : Cx} {x : Str} {n : Int} {pos : Pos} (hg : Gl X x) (h : GI X.mg x n) (hd : (x == ("__debug__" : Str)) = false := by decide) : PE X (.Name x pos) (tC (.int n)) := by
  obtain ⟨t, e⟩ := h
  exact pe_glob hg e ⟨t, rfl⟩ hd
theorem small {n m : Nat} (h : Nat.ble n m = true := by rfl) : n ≤ m := Nat.le_of_ble_eq_true h
theorem nt {b : Bool} (h : (!b) = true) : b = false := by
  cases b with
  | true => cases h
  | false => rfl
theorem nf {b : Bool} (h : (!b) = false) : b = true := by
  cases b with
  | true => rfl
  | false => cases h
/-! ### what evaluates to a value of which P holds -/
def EvP (te : TE) (σ : L2.St) (H : Hp) (P : V → Hp → Prop) : Prop := ∀ H1, Ex H H1 → ∀ Q : VK, (∀ v H2, Ex H1 H2 → P v H2 → Q v H2) → te σ H1 Q
/-- what stays while all that was known stays -/
def Stays (P : V → Hp → Prop) : Prop := ∀ v H H', Ex H H' → P v H → P v H'
def RetP (P : V → Hp → Prop) (H : Hp) (Q : VK) : Prop := ∀ v H2, Ex H H2 → P v H2 → Q v H2
section
variable {K : PySem.W.Frag} {σ : L2.St} {H H' : Hp} {ta tb te tx : TE} {t u : TT} {x y z v : V} {r : R2} {P : V → Hp → Prop}
theorem EvP.mono (e : Ex H H') (h : EvP te σ H P) : EvP te σ H' P := fun H1 a Q q => h H1 (e.trans a) Q q
theorem ep_imp {P' : V → Hp → Prop} (h : EvP te σ H P) (k : ∀ v H', Ex H H' → P v H' → P' v H') : EvP te σ H P' := fun H1 e Q q => h H1 e Q fun v H2 e2 p => q v H2 e2 (k v H2 (e.trans e2) p)
theorem ep_v (h : Ev te σ H v) : EvP te σ H fun z _ => z = v := fun H1 e Q q => h H1 e Q fun H2 e2 => q v H2 e2 rfl
theorem ep_l {xs : List V} (h : EvL te σ H xs) : EvP te σ H fun z H' => ∃ p, z = .ref p ∧ H' p = some (.lst xs) := fun H1 e Q q => h H1 e Q fun p H2 _ e2 hp => q (.ref p) H2 e2 ⟨p, rfl, hp⟩
/-- an argument of which P holds, then a call on values -/
theorem ep_cb1 {r : List V → Hp → VK → Prop} {P' : V → Hp → Prop} (h : EvP te σ H P) (hr : ∀ v H1, Ex H H1 → P v H1 → ∀ Q : VK, (∀ z H2, Ex H1 H2 → P' z H2 → Q z H2) → r [v] H1 Q) : EvP (tCB r (tCons te tNil)) σ H P' := fun H1 e Q q =>
  h H1 e _ fun v H2 e2 p => hr v H2 (e.trans e2) p Q fun z H3 e3 p' => q z H3 (e2.trans e3) p'
theorem ev_cb1 {r : List V → Hp → VK → Prop} (h : EvP te σ H P) (hr : ∀ v H1, Ex H H1 → P v H1 → ∀ Q : VK, (∀ H2, Ex H1 H2 → Q z H2) → r [v] H1 Q) : Ev (tCB r (tCons te tNil)) σ H z := fun H1 e Q q =>
  h H1 e _ fun v H2 e2 p => hr v H2 (e.trans e2) p Q fun H3 e3 => q H3 (e2.trans e3)
/-- a def's call on one argument of which P holds -/
theorem ev_call1 {sp : Sp} {E : XK} (h : EvP te σ H P) (hr : ∀ v H1, Ex H H1 → P v H1 → ∀ Q : VK, RetV z H1 Q → sp [v] H1 Q E) : Ev (tCall sp [] E (tCons te tNil)) σ H z := fun H1 e Q q =>
  h H1 e _ fun v H2 e2 p => hr v H2 (e.trans e2) p Q fun H3 e3 => q H3 (e2.trans e3)
theorem el_call1 {sp : Sp} {E : XK} {xs : List V} (h : EvP te σ H P) (hr : ∀ v H1, Ex H H1 → P v H1 → ∀ Q : VK, RetL xs H1 Q → sp [v] H1 Q E) : EvL (tCall sp [] E (tCons te tNil)) σ H xs := fun H1 e Q q =>
  h H1 e _ fun v H2 e2 p => hr v H2 (e.trans e2) p Q fun q2 H3 hp e3 h3 => q q2 H3 (fresh_back e2 hp) (e2.trans e3) h3
/-- a def's call on values -/
theorem ev_callA {sp : Sp} {E : XK} {ta : TA} {vs : List V} (h : EvA ta σ H vs) (hr : ∀ H1, Ex H H1 → ∀ Q : VK, RetV z H1 Q → sp vs H1 Q E) : Ev (tCall sp [] E ta) σ H z := fun H1 e Q q =>
  h H1 e _ fun H2 e2 => by
    have k := hr H2 (e.trans e2) Q fun H3 e3 => q H3 (e2.trans e3)
    show sp (vs ++ []) H2 Q E
    rw [List.append_nil]
    exact k
theorem el_callA {sp : Sp} {E : XK} {ta : TA} {vs xs : List V} (h : EvA ta σ H vs) (hr : ∀ H1, Ex H H1 → ∀ Q : VK, RetL xs H1 Q → sp vs H1 Q E) : EvL (tCall sp [] E ta) σ H xs := fun H1 e Q q =>
  h H1 e _ fun H2 e2 => by
    have k := hr H2 (e.trans e2) Q fun q2 H3 hp e3 h3 => q q2 H3 (fresh_back e2 hp) (e2.trans e3) h3
    show sp (vs ++ []) H2 Q E
    rw [List.append_nil]
    exact k
theorem ep_callA {sp : Sp} {E : XK} {ta : TA} {vs : List V} {P' : V → Hp → Prop} (h : EvA ta σ H vs) (hr : ∀ H1, Ex H H1 → ∀ Q : VK, RetP P' H1 Q → sp vs H1 Q E) : EvP (tCall sp [] E ta) σ H P' := fun H1 e Q q =>
  h H1 e _ fun H2 e2 => by
    have k := hr H2 (e.trans e2) Q fun v H3 e3 p => q v H3 (e2.trans e3) p
    show sp (vs ++ []) H2 Q E
    rw [List.append_nil]
    exact k
/-! ### statements -/
variable {D : Ends} {tu tw tz : TS}
theorem s_retP (h : EvP te σ H P) (k : RetP P H D.rt) : tRet te D σ H := h H (Ex.refl H) _ k
theorem q_asgP {i : Nat} (h : EvP te σ H P) (k : ∀ v H1, Ex H H1 → P v H1 → tz D (σ.set i (some v)) H1) : tSeq (tAsg te (gName i)) tz D σ H := h H (Ex.refl H) _ k
theorem retP_mono {Q : VK} (k : RetP P H Q) (e : Ex H H') : RetP P H' Q := fun v H2 e2 p => k v H2 (e.trans e2) p
theorem retV_mono {Q : VK} (k : RetV v H Q) (e : Ex H H') : RetV v H' Q := fun H2 e2 => k H2 (e.trans e2)
theorem retL_mono {Q : VK} {xs : List V} (k : RetL xs H Q) (e : Ex H H') : RetL xs H' Q := fun p H2 hp e2 h => k p H2 (fresh_back e hp) (e.trans e2) h
/-! ### a list of whole numbers, made turn by turn -/
theorem given_all (n : Nat) (g : Nat → V) : given n (fun _ => true) g = (List.range n).map g := by
  unfold given
  rw [List.filter_eq_self.mpr fun _ _ => rfl]
theorem et_yes : EvT tYes σ H true := fun H1 _ _ q => q H1 (Ex.refl H1)
/-- [e for x in xs] over a list of whole numbers, each a whole number by g -/
theorem el_ints {a : Addr} {ns : List Int} {tl : TE} {j : Nat} {vs : List Nat} (g : Int → Int) (h : Ev tl σ H (.ref a)) (hx : SqL K H a (ns.map V.int)) (hz : ns.length ≤ 40000) (hw : ∀ x, wipe ((wipe σ vs).set j (some x)) vs = wipe σ vs)
    (he : ∀ n H1, Ex H H1 → n ∈ ns → Ev te ((wipe σ vs).set j (some (.int n))) H1 (.int (g n))) : EvL (tLc (iList K tl) (gName j) tYes te vs) σ H ((ns.map g).map V.int) := by
  have k := el_lcL (K := K) (te := te) (t := tYes) (vs := vs) (j := j) (fun _ => true) (fun i => V.int (g (ns.getD i 0))) h hx (by rw [List.length_map]; exact hz) hw (fun _ _ _ _ _ => et_yes) fun i x H1 e hi _ => by
    obtain ⟨n, hn, rfl⟩ : ∃ n, ns[i]? = some n ∧ x = V.int n := by
      rw [List.getElem?_map] at hi
      cases q : ns[i]? with
      | none =>
        rw [q] at hi
        cases hi
      | some n =>
        rw [q] at hi
        exact ⟨n, rfl, (Option.some.inj hi).symm⟩
    have q : ns.getD i 0 = n := by
      rw [List.getD_eq_getElem?_getD, hn]
      rfl
    rw [q]
    exact he n H1 e (List.mem_of_getElem? hn)
  rw [given_all, List.length_map] at k
  have e : (List.range ns.length).map (fun i => V.int (g (ns.getD i 0))) = (ns.map g).map V.int := by
    apply List.ext_getElem?
    intro i
    rw [List.getElem?_map, List.getElem?_map, List.getElem?_map]
    by_cases c : i < ns.length
    · rw [List.getElem?_range c, List.getElem?_eq_getElem c]
      show some (V.int (g (ns.getD i 0))) = some (V.int (g ns[i]))
      rw [List.getD_eq_getElem?_getD, List.getElem?_eq_getElem c]
      rfl
    · rw [List.getElem?_eq_none (by rw [List.length_range]; omega), List.getElem?_eq_none (by omega)]
      rfl
  rw [e] at k
  exact k
/-! ### chains, sums of lists, calls on a new list -/
theorem ev_chain {r' : R2} {tc : TE} {k1 k2 : Bool} (ha : Ev ta σ H x) (hb : Ev tb σ H y) (h1 : RV r x y H (.bl k1)) (hc : k1 = true → Ev tc σ H z) (h2 : k1 = true → RV r' y z H (.bl k2)) : Ev (tChain r r' ta tb tc) σ H (.bl (k1 && k2)) := fun H1 e Q q =>
  ha H1 e _ fun H2 e2 => hb H2 (e.trans e2) _ fun H3 e3 => h1 H3 ((e.trans e2).trans e3) _ fun H4 e4 => ⟨k1, rfl, by
    cases k1 with
    | true =>
      show tc σ H4 fun w' H5 => r' y w' H5 Q
      exact hc rfl H4 (((e.trans e2).trans e3).trans e4) _ fun H5 e5 => h2 rfl H5 ((((e.trans e2).trans e3).trans e4).trans e5) Q fun H6 e6 => q H6 ((((e2.trans e3).trans e4).trans e5).trans e6)
    | false =>
      show Q (.bl false) H4
      exact q H4 ((e2.trans e3).trans e4)⟩
/-- a <= b <= c of whole numbers -/
theorem ev_between {tc : TE} {i j k : Int} (ha : Ev ta σ H (.int i)) (hb : Ev tb σ H (.int j)) (hc : Ev tc σ H (.int k)) : Ev (tChain (rI0 fun i j => .bl (decide (i ≤ j))) (rI0 fun i j => .bl (decide (i ≤ j))) ta tb tc) σ H (.bl (decide (i ≤ j) && decide (j ≤ k))) :=
  ev_chain ha hb rv_I0 (fun _ => hc) (fun _ => rv_I0)
theorem el_cat {xs ys : List V} (ha : EvL ta σ H xs) (hb : EvL tb σ H ys) (hl : xs.length + ys.length ≤ 100000) : EvL (tOp rCat ta tb) σ H (xs ++ ys) := fun H1 e Q q =>
  ha H1 e _ fun p H2 hp e2 h2 => hb H2 (e.trans e2) _ fun p' H3 _ e3 h3 => ⟨p, p', xs, ys, rfl, rfl, e3 p _ h2, h3, sz_of hl, fun d hd =>
    q d _ (fresh_back (e2.trans e3) hd) ((e2.trans e3).trans (Ex.new hd)) upd_same⟩
/-- a def called on a new list, handing back a new list | a value -/
theorem el_callL {sp : Sp} {E : XK} {xs ys : List V} (h : EvL te σ H xs) (hr : ∀ p H1, Ex H H1 → H1 p = some (.lst xs) → ∀ Q : VK, RetL ys H1 Q → sp [.ref p] H1 Q E) : EvL (tCall sp [] E (tCons te tNil)) σ H ys := fun H1 e Q q =>
  h H1 e _ fun p H2 _ e2 hp => hr p H2 (e.trans e2) hp Q fun p' H3 hp' e3 h3 => q p' H3 (fresh_back e2 hp') (e2.trans e3) h3
theorem ev_callL {sp : Sp} {E : XK} {xs : List V} (h : EvL te σ H xs) (hr : ∀ p H1, Ex H H1 → H1 p = some (.lst xs) → ∀ Q : VK, RetV z H1 Q → sp [.ref p] H1 Q E) : Ev (tCall sp [] E (tCons te tNil)) σ H z := fun H1 e Q q =>
  h H1 e _ fun p H2 _ e2 hp => hr p H2 (e.trans e2) hp Q fun H3 e3 => q H3 (e2.trans e3)
theorem sq_new {p : Addr} {xs : List V} (h : H p = some (.lst xs)) : SqL K H p xs := .inl (.inl h)
/-- (a, b, ..) = a new list: the names hold its items -/
theorem q_unl {n : Nat} {t : TGs} {xs : List V} (h : EvL te σ H xs) (hn : xs.length = n) (k : ∀ H1, Ex H H1 → t xs σ H1 fun σ' H' => tz D σ' H') : tSeq (tAsg te (gUnl K n t)) tz D σ H := h H (Ex.refl H) _ fun p H1 _ e hp => ⟨p, xs, rfl, .inl (.inl hp), hn, k H1 e⟩
theorem int1 {z : Int} : ([z].map V.int) = [V.int z] := rfl
end
end LC
set_option Elab.async false
set_option maxRecDepth 100000
set_option maxHeartbeats 2000000
namespace LC
open PySem PySem.Spec PyProof.Rows L2 Evl
/-! ### what a for or a comprehension walks: n turns, what each gives -/
def EvW (wi : TI) (σ : L2.St) (H : Hp) (n : Nat) (Y : Nat → Hp → V → Hp → Prop) : Prop := ∀ H1, Ex H H1 → ∀ R : It → Hp → Prop, (∀ (J : It) (H2 : Hp) (G : Hp → Prop), Ex H1 H2 → Walk J n G Y → (∀ H3, Ex H2 H3 → G H3) → R J H2) → wi σ H1 R
/-- the objects at qs are os -/
def ObjsAt (H : Hp) (qs : List Addr) (os : List HO) : Prop := qs.length = os.length ∧ ∀ (i : Nat) (q : Addr) (o : HO), qs[i]? = some q → os[i]? = some o → H q = some o
theorem ObjsAt.mono {H H' : Hp} {qs : List Addr} {os : List HO} (h : ObjsAt H qs os) (e : Ex H H') : ObjsAt H' qs os := ⟨h.1, fun i q o a b => e _ _ (h.2 i q o a b)⟩
theorem ObjsAt.get {H : Hp} {qs : List Addr} {os : List HO} {i : Nat} {o : HO} (h : ObjsAt H qs os) (ho : os[i]? = some o) : ∃ q, qs[i]? = some q ∧ H q = some o := by
  have hi : i < os.length := (List.getElem?_eq_some_iff.mp ho).1
  have hq : i < qs.length := by rw [h.1]; exact hi
  exact ⟨qs[i], List.getElem?_eq_getElem hq, h.2 i _ o (List.getElem?_eq_getElem hq) ho⟩
theorem ObjsAt.at {H : Hp} {qs : List Addr} {os : List HO} {i : Nat} {x : V} (h : ObjsAt H qs os) (hx : (qs.map V.ref)[i]? = some x) : ∃ q o, x = .ref q ∧ qs[i]? = some q ∧ os[i]? = some o ∧ H q = some o := by
  rw [List.getElem?_map] at hx
  cases e : qs[i]? with
  | none =>
    rw [e] at hx
    cases hx
  | some q =>
    rw [e] at hx
    have hi : i < qs.length := (List.getElem?_eq_some_iff.mp e).1
    have ho : i < os.length := by rw [← h.1]; exact hi
    exact ⟨q, os[i], (Option.some.inj hx).symm, rfl, List.getElem?_eq_getElem ho, h.2 i q _ e (List.getElem?_eq_getElem ho)⟩
/-- a new object of the content o -/
def EvO (te : TE) (σ : L2.St) (H : Hp) (o : HO) : Prop := ∀ H1, Ex H H1 → ∀ Q : VK, (∀ p H2, H1 p = none → Ex H1 H2 → H2 p = some o → Q (.ref p) H2) → te σ H1 Q
theorem eo_l {te : TE} {σ : L2.St} {H : Hp} {xs : List V} (h : EvL te σ H xs) : EvO te σ H (.lst xs) := h
theorem eo_u {te : TE} {σ : L2.St} {H : Hp} {xs : List V} (h : EvU te σ H xs) : EvO te σ H (.tup xs) := h
/-- what is handed on: a new list of new objects, no two alike -/
def RetOs (os : List HO) (H : Hp) (Q : VK) : Prop := ∀ (p : Addr) (qs : List Addr) (H2 : Hp), H p = none → Ex H H2 → H2 p = some (.lst (qs.map V.ref)) → ObjsAt H2 qs os → (∀ q ∈ qs, H q = none ∧ q ≠ p) → qs.Nodup → Q (.ref p) H2
theorem retOs_mono {os : List HO} {H H' : Hp} {Q : VK} (k : RetOs os H Q) (e : Ex H H') : RetOs os H' Q := fun p qs H2 hp e2 h1 h2 h3 h4 => k p qs H2 (fresh_back e hp) (e.trans e2) h1 h2 (fun q m => ⟨fresh_back e (h3 q m).1, (h3 q m).2⟩) h4
def EvOs (te : TE) (σ : L2.St) (H : Hp) (os : List HO) : Prop := ∀ H1, Ex H H1 → ∀ Q : VK, RetOs os H1 Q → te σ H1 Q
section
variable {K : PySem.W.Frag} {σ : L2.St} {H H' : Hp} {ta tb te tx tl : TE} {t u : TT} {x y z v : V} {r : R2} {P : V → Hp → Prop} {n : Nat} {Y : Nat → Hp → V → Hp → Prop} {wi : TI} {g : TG} {vs : List Nat} {a b : Addr} {xs ys : List V}
theorem EvW.mono (h : EvW wi σ H n Y) (e : Ex H H') : EvW wi σ H' n Y := fun H1 a R k => h H1 (e.trans a) R k
theorem ew_list (h : Ev tl σ H (.ref a)) (hx : SqL K H a xs) : EvW (iList K tl) σ H xs.length (YAt xs) := fun H1 e R k => h H1 e _ fun H2 e2 =>
  ⟨a, rfl, ⟨xs, ex_l (e.trans e2) hx⟩, k _ H2 _ e2 walk_list fun _ e3 => ex_l ((e.trans e2).trans e3) hx⟩
theorem ew_listL (h : EvL tl σ H xs) : EvW (iList K tl) σ H xs.length (YAt xs) := fun H1 e R k => h H1 e _ fun p H2 _ e2 hp =>
  ⟨p, rfl, ⟨xs, sq_new hp⟩, k _ H2 _ e2 walk_list fun _ e3 => ex_l e3 (sq_new hp)⟩
theorem ew_rng1 {ta : TA} {m : Int} (h : EvA ta σ H [.int m]) (h0 : 0 ≤ m ∧ m ≤ 1000000) : EvW (iRng1 ta) σ H m.toNat (YFn fun i => .int (i : Int)) := fun H1 e R k => h H1 e _ fun H2 e2 =>
  ⟨m, rfl, by omega, by omega, k _ H2 (fun _ => True) e2 ((walk_range (lo := 0) (n := m.toNat)).mono (fun _ z => z) fun i H x H' _ _ yy => ⟨yy.1, yy.2.trans (congrArg V.int (Int.zero_add _))⟩) fun _ _ => True.intro⟩
theorem ew_rng2 {ta : TA} {lo m : Int} (h : EvA ta σ H [.int lo, .int m]) (h0 : 0 ≤ lo ∧ lo ≤ 1000000 ∧ 0 ≤ m ∧ m ≤ 1000000) : EvW (iRng2 ta) σ H (m - lo).toNat (YFn fun i => .int (lo + (i : Int))) := fun H1 e R k => h H1 e _ fun H2 e2 =>
  ⟨lo, m, rfl, ⟨by omega, by omega, by omega, by omega⟩, k _ H2 (fun _ => True) e2 walk_range fun _ _ => True.intro⟩
theorem ew_rng3 {ta : TA} {i j c : Int} (h : EvA ta σ H [.int i, .int j, .int c]) (h0 : RgC i j c n) : EvW (iRng3 ta) σ H n (YFn fun k => .int (i + (k : Nat) * c)) := fun H1 e R k => h H1 e _ fun H2 e2 =>
  ⟨i, j, c, n, rfl, h0, k _ H2 (fun _ => True) e2 walk_rangeC fun _ _ => True.intro⟩
theorem ew_enum {ta : TA} (h : EvA ta σ H [.ref a]) (hx : SqL K H a xs) : EvW (iEnum K ta) σ H xs.length (YPair (fun i => some (.int (i : Nat))) fun i => xs[i]?) := fun H1 e R k => h H1 e _ fun H2 e2 =>
  ⟨a, xs, rfl, ex_l (e.trans e2) hx, k _ H2 _ e2 walk_enum fun _ e3 => ex_l ((e.trans e2).trans e3) hx⟩
theorem ew_zip {ta : TA} (h : EvA ta σ H [.ref a, .ref b]) (hx : SqL K H a xs) (hy : SqL K H b ys) (hn : n = min xs.length ys.length) : EvW (iZip K ta) σ H n (YPair (fun i => xs[i]?) fun i => ys[i]?) := fun H1 e R k => h H1 e _ fun H2 e2 =>
  ⟨a, b, xs, ys, rfl, ex_l (e.trans e2) hx, ex_l (e.trans e2) hy, k _ H2 _ e2 (walk_zip hn) fun _ e3 => ⟨ex_l ((e.trans e2).trans e3) hx, ex_l ((e.trans e2).trans e3) hy⟩⟩
/-! ### comprehensions -/
/-- each item a value; with tests -/
theorem el_lcW (f : Nat → Bool) (v : Nat → V) (hw : EvW wi σ H n Y) (hn : n < 50000)
    (he : ∀ i x H1 H2, i < n → Ex H H1 → Y i H1 x H2 → ∀ Qg : L2.St → Hp → Prop, (∀ σ2 H3, wipe σ2 vs = wipe σ vs → Ex H1 H3 → EvT t σ2 H3 (f i) → (f i = true → Ev te σ2 H3 (v i)) → Qg σ2 H3) → g x (wipe σ vs) H2 Qg) : EvL (tLc wi g t te vs) σ H (given n f v) := fun H1 e Q q =>
  hw H1 e _ fun J H2 G e2 w hG Dl hD => by
    refine lc_it w (fun i H' => H2 Dl = none ∧ Ex H2 H' ∧ H' Dl = some (.lst (given i f v))) ⟨hD, Ex.new hD, upd_same⟩ (fun i H' _ p => hG H' p.2.1) (fun i x H3 H4 hi p yy => ?_) fun H' p => q Dl H' (fresh_back e2 p.1) (e2.trans p.2.1) p.2.2
    obtain ⟨p1, p2, p3⟩ := p
    refine he i x H3 H4 hi ((e.trans e2).trans p2) yy _ fun σ2 H5 hwp e5 ht hv => ⟨hwp, ?_⟩
    refine ht H5 (Ex.refl H5) _ fun H6 e6 => ?_
    cases hf : f i with
    | true =>
      show te σ2 H6 _
      refine hv hf H6 e6 _ fun H7 e7 => ⟨given i f v, e7 Dl _ (e6 Dl _ (e5 Dl _ p3)), sz_lt (by have := given_len i f v; omega), p1, Ex.mut (((p2.trans e5).trans e6).trans e7) p1, ?_⟩
      rw [given_yes hf]
      exact upd_same
    | false =>
      show H2 Dl = none ∧ Ex H2 H6 ∧ H6 Dl = some (.lst (given (i + 1) f v))
      refine ⟨p1, (p2.trans e5).trans e6, ?_⟩
      rw [given_no hf]
      exact e6 Dl _ (e5 Dl _ p3)
/-- .. without tests -/
theorem el_lcV (v : Nat → V) (hw : EvW wi σ H n Y) (hn : n < 50000)
    (he : ∀ i x H1 H2, i < n → Ex H H1 → Y i H1 x H2 → ∀ Qg : L2.St → Hp → Prop, (∀ σ2 H3, wipe σ2 vs = wipe σ vs → Ex H1 H3 → Ev te σ2 H3 (v i) → Qg σ2 H3) → g x (wipe σ vs) H2 Qg) : EvL (tLc wi g tYes te vs) σ H ((List.range n).map v) := by
  have k := el_lcW (te := te) (t := tYes) (g := g) (vs := vs) (fun _ => true) v hw hn fun i x H1 H2 hi e yy Qg q => he i x H1 H2 hi e yy Qg fun σ2 H3 a b c => q σ2 H3 a b et_yes fun _ => c
  rw [given_all] at k
  exact k
theorem nodup_snoc {l : List Addr} {a : Addr} (h : l.Nodup) (ha : a ∉ l) : (l ++ [a]).Nodup := by
  rw [List.nodup_append]
  refine ⟨h, List.nodup_cons.mpr ⟨by simp, List.nodup_nil⟩, fun x hx y hy => ?_⟩
  have e : y = a := by simpa using hy
  rw [e]
  intro z
  rw [z] at hx
  exact ha hx
/-- each item a new object -/
theorem eos_lc {os : List HO} (hw : EvW wi σ H os.length Y) (hn : os.length ≤ 90000)
    (he : ∀ i x o H1 H2, os[i]? = some o → Ex H H1 → Y i H1 x H2 → ∀ Qg : L2.St → Hp → Prop, (∀ σ2 H3, wipe σ2 vs = wipe σ vs → Ex H1 H3 → EvO te σ2 H3 o → Qg σ2 H3) → g x (wipe σ vs) H2 Qg) : EvOs (tLc wi g tYes te vs) σ H os := fun H1 e Q q =>
  hw H1 e _ fun J H2 G e2 w hG Dl hD => by
    refine lc_it w (fun i H' => i ≤ os.length ∧ Ex H2 H' ∧ ∃ qs : List Addr, H' Dl = some (.lst (qs.map V.ref)) ∧ qs.length = i ∧ (∀ (j : Nat) (q : Addr) (o : HO), qs[j]? = some q → os[j]? = some o → H' q = some o) ∧ (∀ q ∈ qs, H2 q = none ∧ q ≠ Dl) ∧ qs.Nodup)
      ⟨Nat.zero_le _, Ex.new hD, [], upd_same, rfl, fun j q o h => by simp at h, fun q h => absurd h (by simp), List.nodup_nil⟩ (fun i H' _ p => hG H' p.2.1) (fun i x H3 H4 hi p yy => ?_) fun H' p => ?_
    · obtain ⟨_, e3, qs, hp, hl, ho, hf, hd⟩ := p
      have go := List.getElem?_eq_getElem hi
      refine he i x _ H3 H4 go ((e.trans e2).trans e3) yy _ fun σ2 H5 hwp e5 hev => ⟨hwp, ?_⟩
      show te σ2 H5 _
      refine hev H5 (Ex.refl H5) _ fun a H6 ha e6 h6 => ⟨qs.map V.ref, e6 _ _ (e5 _ _ hp), sz_lt (by rw [List.length_map, hl]; omega), hi, Ex.mut ((e3.trans e5).trans e6) hD, qs ++ [a], ?_, ?_, ?_, ?_, ?_⟩
      · rw [upd_same, List.map_append]
        rfl
      · rw [List.length_append, hl]
        rfl
      · have nD : a ≠ Dl := fun z => by
          rw [z, e5 _ _ hp] at ha
          cases ha
        intro j b o hb hob
        by_cases c : j < qs.length
        · rw [List.getElem?_append_left c] at hb
          have m := hf b (List.mem_of_getElem? hb)
          rw [upd_ne m.2]
          exact e6 _ _ (e5 _ _ (ho j b o hb hob))
        · have cj : j = qs.length := by
            have h2 := (List.getElem?_eq_some_iff.mp hb).1
            rw [List.length_append] at h2
            have : ([a] : List Addr).length = 1 := rfl
            omega
          rw [cj, List.getElem?_append_right (Nat.le_refl _), Nat.sub_self] at hb
          have eb : a = b := Option.some.inj hb
          rw [← eb, upd_ne nD, h6, ← hob, cj, hl]
          exact go.symm
      · intro b hb
        rcases List.mem_append.mp hb with m | m
        · exact hf b m
        · have eb : b = a := by simpa using m
          rw [eb]
          refine ⟨fresh_back (e3.trans e5) ha, fun z => ?_⟩
          rw [z, e5 _ _ hp] at ha
          cases ha
      · refine nodup_snoc hd fun m => ?_
        obtain ⟨j, hj⟩ := List.getElem?_of_mem m
        have hj2 : j < os.length := by
          have := (List.getElem?_eq_some_iff.mp hj).1
          omega
        have z := e5 _ _ (ho j a _ hj (List.getElem?_eq_getElem hj2))
        rw [ha] at z
        cases z
    · obtain ⟨_, e3, qs, hp, hl, ho, hf, hd⟩ := p
      exact q Dl qs H' (fresh_back e2 hD) (e2.trans e3) hp ⟨hl, ho⟩ (fun b m => ⟨fresh_back e2 (hf b m).1, (hf b m).2⟩) hd
end
end LC
set_option Elab.async false
set_option maxRecDepth 100000
set_option maxHeartbeats 2000000
namespace LC
open PySem PySem.Spec PyProof.Rows L2 Evl
/-- the heap without what stands at d -/
def hide (H : Hp) (d : Addr) : Hp := fun b => if b = d then none else H b
theorem hide_at (H : Hp) (d : Addr) : hide H d d = none := if_pos rfl
theorem hide_of {H : Hp} {d b : Addr} {o : HO} (h : H b = some o) (n : b ≠ d) : hide H d b = some o := (if_neg n).trans h
theorem hide_ex (H : Hp) (d : Addr) : Ex (hide H d) H := fun b o h => by
  unfold hide at h
  by_cases c : b = d
  · rw [if_pos c] at h
    cases h
  · rw [if_neg c] at h
    exact h
section
variable {K : PySem.W.Frag} {σ : L2.St} {H H' : Hp} {ta tb te tx tl : TE} {t u : TT} {x y z v : V} {r : R2} {P : V → Hp → Prop} {n : Nat} {Y : Nat → Hp → V → Hp → Prop} {wi : TI} {g : TG} {vs : List Nat} {a b : Addr} {xs ys : List V}
/-- [e for x in xs] over a list of whole numbers, each a value by g -/
theorem el_vals {ns : List Int} {j : Nat} (g : Int → V) (h : Ev tl σ H (.ref a)) (hx : SqL K H a (ns.map V.int)) (hz : ns.length ≤ 40000) (hw : ∀ x, wipe ((wipe σ vs).set j (some x)) vs = wipe σ vs)
    (he : ∀ n H1, Ex H H1 → n ∈ ns → Ev te ((wipe σ vs).set j (some (.int n))) H1 (g n)) : EvL (tLc (iList K tl) (gName j) tYes te vs) σ H (ns.map g) := by
  have hwk := ew_list (K := K) h hx
  rw [List.length_map] at hwk
  have k := el_lcV (te := te) (g := gName j) (vs := vs) (fun i => g (ns.getD i 0)) hwk (by omega) fun i y H1 H2 hi e yy Qg q => by
    obtain ⟨rfl, hy⟩ := yy
    obtain ⟨n, hn, rfl⟩ := map_get hy
    refine q _ _ (hw _) (Ex.refl _) ?_
    have e2 : ns.getD i 0 = n := getD_some hn
    show Ev te _ _ (g (ns.getD i 0))
    rw [e2]
    exact he n _ e (List.mem_of_getElem? hn)
  have e : (List.range ns.length).map (fun i => g (ns.getD i 0)) = ns.map g := by
    apply List.ext_getElem?
    intro i
    rw [List.getElem?_map, List.getElem?_map]
    by_cases c : i < ns.length
    · rw [List.getElem?_range c, List.getElem?_eq_getElem c]
      show some (g (ns.getD i 0)) = some (g ns[i])
      rw [List.getD_eq_getElem?_getD, List.getElem?_eq_getElem c]
      rfl
    · rw [List.getElem?_eq_none (by rw [List.length_range]; omega), List.getElem?_eq_none (by omega)]
      rfl
  rw [e] at k
  exact k
/-- xs.extend(ys), ys a new list -/
theorem s_ext {D : Ends} {i : Nat} {l : Addr} (hl : H l = some (.lst xs)) (hi : σ[i]? = some (some (.ref l))) (h : EvL te σ H ys) (hz : xs.length + ys.length ≤ 100000) (k : ∀ H1, Ex H H1 → D.nx σ (upd H1 l (.lst (xs ++ ys)))) : tDrop (tBM K "list" rExtend (tVar i) (tCons te tNil)) D σ H :=
  ⟨_, hi, Or.inl ⟨rfl, xs, sq_of hl⟩, h H (Ex.refl H) _ fun p H2 _ e2 h2 => ⟨l, p, xs, ys, rfl, rfl, e2 l _ hl, h2, sz_of hz, k H2 e2⟩⟩
/-- sorted(xs) -/
theorem el_sorted {ns : List Int} (h : Ev ta σ H (.ref a)) (hx : SqL K H a (ns.map V.int)) : EvL (tCB (rSortedI K) (tCons ta tNil)) σ H ((ns.mergeSort fun x y => decide (x ≤ y)).map V.int) := fun H1 e Q q => h H1 e _ fun H2 e2 =>
  ⟨a, ns, rfl, ex_l (e.trans e2) hx, fun ns' p hp hs hn => by
    have k := q p (upd H2 p (.lst (ns'.map V.int))) (fresh_back e2 hn) (e2.trans (Ex.new hn))
    rw [← PySem.W.os_sorted_mergeSort hp hs] at k
    exact k upd_same⟩
/-- all(xs), sum(xs) of a new list -/
theorem ev_allN {bs : List Bool} (h : EvL ta σ H (bs.map V.bl)) : Ev (tCB (rAll K) (tCons ta tNil)) σ H (.bl (bs.all id)) := fun H1 e Q q => h H1 e _ fun p H2 _ e2 hp => ⟨p, bs, rfl, sq_new hp, q H2 e2⟩
theorem ev_sumN {ns : List Int} (h : EvL ta σ H (ns.map V.int)) : Ev (tCB (rSum K) (tCons ta tNil)) σ H (.int ns.sum) := fun H1 e Q q => h H1 e _ fun p H2 _ e2 hp => ⟨p, ns, rfl, sq_new hp, q H2 e2⟩
theorem ev_sum {ns : List Int} (h : Ev ta σ H (.ref a)) (hx : SqL K H a (ns.map V.int)) : Ev (tCB (rSum K) (tCons ta tNil)) σ H (.int ns.sum) := fun H1 e Q q => h H1 e _ fun H2 e2 => ⟨a, ns, rfl, ex_l (e.trans e2) hx, q H2 e2⟩
/-- abs(n) -/
theorem ev_abs {i : Int} (h : Ev ta σ H (.int i)) : Ev (tCB (fun xs H Q => ∃ i : Int, xs = [.int i] ∧ Q (.int (if i < 0 then -i else i)) H) (tCons ta tNil)) σ H (.int (if i < 0 then -i else i)) := fun H1 e Q q => h H1 e _ fun H2 e2 => ⟨i, rfl, q H2 e2⟩
/-- xs[i] of a new list, a list that stands, a tuple -/
theorem ev_ixN {tb : TE} {i : Int} (h : EvL ta σ H xs) (hb : ∀ H1, Ex H H1 → Ev tb σ H1 (.int i)) (hi : atI xs i = some v) : Ev (tOp (rIxL K) ta tb) σ H v := ev_opL1 h hb fun p H1 hp _ => rv_ixL (sq_new hp) hi
/-- o.f -/
theorem ev_fld {C dx : Addr} {fs : List (Str × V)} {f : Str} (h : Ev ta σ H (.ref a)) (ha : H a = some (.ins C dx fs)) (hc : Cls K C) (hn : NoAttr K C f) (hv : fs.lookup f = some v) : Ev (tFld K ta f) σ H v := fun H1 e Q q => h H1 e _ fun H2 e2 =>
  ⟨a, C, dx, fs, v, rfl, (e.trans e2) _ _ ha, hc, hn, hv, q H2 e2⟩
/-- o.m(..), handing back a value | a new list -/
theorem ev_meth {C dx : Addr} {fs : List (Str × V)} {m : Str} {sp : Sp} {E : XK} {t : TA} {ws : List V} (h : Ev ta σ H (.ref a)) (ha : H a = some (.ins C dx fs)) (hm : fs.lookup m = none) (ht : EvA t σ H ws) (hr : ∀ H1, Ex H H1 → ∀ Q : VK, RetV z H1 Q → sp (.ref a :: ws) H1 Q E) : Ev (tMeth C m sp [] E ta t) σ H z := fun H1 e Q q =>
  h H1 e _ fun H2 e2 => ⟨a, dx, fs, rfl, (e.trans e2) _ _ ha, hm, ht H2 (e.trans e2) _ fun H3 e3 => by
    have k := hr H3 ((e.trans e2).trans e3) Q fun H4 e4 => q H4 ((e2.trans e3).trans e4)
    show sp (.ref a :: (ws ++ [])) H3 Q E
    rw [List.append_nil]
    exact k⟩
theorem el_meth {C dx : Addr} {fs : List (Str × V)} {m : Str} {sp : Sp} {E : XK} {t : TA} {ws : List V} (h : Ev ta σ H (.ref a)) (ha : H a = some (.ins C dx fs)) (hm : fs.lookup m = none) (ht : EvA t σ H ws) (hr : ∀ H1, Ex H H1 → ∀ Q : VK, RetL xs H1 Q → sp (.ref a :: ws) H1 Q E) : EvL (tMeth C m sp [] E ta t) σ H xs := fun H1 e Q q =>
  h H1 e _ fun H2 e2 => ⟨a, dx, fs, rfl, (e.trans e2) _ _ ha, hm, ht H2 (e.trans e2) _ fun H3 e3 => by
    have k := hr H3 ((e.trans e2).trans e3) Q fun p H4 hp e4 h4 => q p H4 (fresh_back (e2.trans e3) hp) ((e2.trans e3).trans e4) h4
    show sp (.ref a :: (ws ++ [])) H3 Q E
    rw [List.append_nil]
    exact k⟩
/-- a call with one argument a new list, others ahead and behind: the argument's evaluation is told by hand -/
theorem ea_consP {tr : TA} {P' : List V → Hp → Prop} (h : EvL te σ H xs) (hr : ∀ p H1, Ex H H1 → H1 p = some (.lst xs) → ∀ Q : List V → Hp → Prop, (∀ ws H2, Ex H1 H2 → P' (.ref p :: ws) H2 → Q ws H2) → tr σ H1 Q) :
    ∀ H1, Ex H H1 → ∀ Q : List V → Hp → Prop, (∀ ws H2, Ex H1 H2 → P' ws H2 → Q ws H2) → tCons te tr σ H1 Q := fun H1 e Q q =>
  h H1 e _ fun p H2 _ e2 hp => hr p H2 (e.trans e2) hp _ fun ws H3 e3 hP => q _ H3 (e2.trans e3) hP
/-- x, y = e1, e2 -/
theorem q_par {i j : Nat} {tz : TS} {D : Ends} {t : TA} (h : EvA t σ H [x, y]) (k : ∀ H1, Ex H H1 → tz D ((σ.set i (some x)).set j (some y)) H1) : tSeq (tPar i j t) tz D σ H := h H (Ex.refl H) _ fun H1 e => ⟨x, y, rfl, k H1 e⟩
/-- (a, b, ..) = a new tuple: the names hold its items -/
theorem q_untup {n : Nat} {t : TGs} {tz : TS} {D : Ends} (h : EvU te σ H xs) (hn : xs.length = n) (k : ∀ H1, Ex H H1 → t xs σ H1 fun σ' H' => tz D σ' H') : tSeq (tAsg te (gTup K n t)) tz D σ H := h H (Ex.refl H) _ fun p H1 _ e hp => ⟨p, xs, rfl, .inl (.inl hp), hn, k H1 e⟩
/-- both new lists -/
theorem q_parLL {i j : Nat} {tz : TS} {D : Ends} (ha : EvL ta σ H xs) (hb : EvL tb σ H ys) (k : ∀ p p' H1, Ex H H1 → H1 p = some (.lst xs) → H1 p' = some (.lst ys) → tz D ((σ.set i (some (.ref p))).set j (some (.ref p'))) H1) : tSeq (tPar i j (tCons ta (tCons tb tNil))) tz D σ H :=
  ha H (Ex.refl H) _ fun p H1 _ e1 hp => hb H1 e1 _ fun p' H2 _ e2 hp' => ⟨_, _, rfl, k p p' H2 (e1.trans e2) (e2 _ _ hp) hp'⟩
/-- o.f = e -/
theorem s_fldV {i : Nat} {C dx : Addr} {fs : List (Str × V)} {f : Str} {D : Ends} (h : Ev te σ H v) (hi : σ[i]? = some (some (.ref a))) (ha : H a = some (.ins C dx fs)) (hc : Cls K C) (hn : NoAttr K C f) (hl : fs.length < 1000) (k : ∀ H2, Ex H H2 → D.nx σ (upd H2 a (.ins C dx (putF f v fs)))) : sFld K (tVar i) te f D σ H :=
  h H (Ex.refl H) _ fun H2 e2 => ⟨_, hi, a, C, dx, fs, rfl, e2 _ _ ha, hc, hn, hl, k H2 e2⟩
theorem s_fldL {i : Nat} {C dx : Addr} {fs : List (Str × V)} {f : Str} {D : Ends} (h : EvL te σ H xs) (hi : σ[i]? = some (some (.ref a))) (ha : H a = some (.ins C dx fs)) (hc : Cls K C) (hn : NoAttr K C f) (hl : fs.length < 1000)
    (k : ∀ p H2, H p = none → Ex H H2 → H2 p = some (.lst xs) → D.nx σ (upd H2 a (.ins C dx (putF f (.ref p) fs)))) : sFld K (tVar i) te f D σ H :=
  h H (Ex.refl H) _ fun p H2 hp e2 h1 => ⟨_, hi, a, C, dx, fs, rfl, e2 _ _ ha, hc, hn, hl, k p H2 hp e2 h1⟩
theorem s_fldOs {i : Nat} {C dx : Addr} {fs : List (Str × V)} {f : Str} {D : Ends} {os : List HO} (h : EvOs te σ H os) (hi : σ[i]? = some (some (.ref a))) (ha : H a = some (.ins C dx fs)) (hc : Cls K C) (hn : NoAttr K C f) (hl : fs.length < 1000)
    (k : ∀ (p : Addr) (qs : List Addr) (H2 : Hp), H p = none → Ex H H2 → H2 p = some (.lst (qs.map V.ref)) → ObjsAt H2 qs os → (∀ q ∈ qs, H q = none ∧ q ≠ p) → qs.Nodup → D.nx σ (upd H2 a (.ins C dx (putF f (.ref p) fs)))) : sFld K (tVar i) te f D σ H :=
  h H (Ex.refl H) _ fun p qs H2 hp e2 h1 h2 h3 h4 => ⟨_, hi, a, C, dx, fs, rfl, e2 _ _ ha, hc, hn, hl, k p qs H2 hp e2 h1 h2 h3 h4⟩
/-- xs + ys, ys a list that stands -/
theorem el_catV {p : Addr} (ha : EvL ta σ H xs) (hb : Ev tb σ H (.ref p)) (hp : H p = some (.lst ys)) (hl : xs.length + ys.length ≤ 100000) : EvL (tOp rCat ta tb) σ H (xs ++ ys) := fun H1 e Q q =>
  ha H1 e _ fun d H2 _ e2 h2 => hb H2 (e.trans e2) _ fun H3 e3 => ⟨d, p, xs, ys, rfl, rfl, e3 d _ h2, ((e.trans e2).trans e3) _ _ hp, sz_of hl, fun r hr => q r _ (fresh_back (e2.trans e3) hr) ((e2.trans e3).trans (Ex.new hr)) upd_same⟩
/-- f(e, ..), e told by a predicate, the rest values -/
theorem el_callP {sp : Sp} {E : XK} {tr : TA} {ws : List V} (h : EvP te σ H P) (ht : EvA tr σ H ws) (hr : ∀ v H1 H2, Ex H H1 → P v H1 → Ex H1 H2 → ∀ Q : VK, RetL xs H2 Q → sp (v :: ws) H2 Q E) : EvL (tCall sp [] E (tCons te tr)) σ H xs := fun H1 e Q q =>
  h H1 e _ fun v H2 e2 p => ht H2 (e.trans e2) _ fun H3 e3 => by
    have k := hr v H2 H3 (e.trans e2) p e3 Q fun d H4 hd e4 h4 => q d H4 (fresh_back (e2.trans e3) hd) ((e2.trans e3).trans e4) h4
    show sp ((v :: ws) ++ []) H3 Q E
    rw [List.append_nil]
    exact k
/-- max(m, n) -/
theorem ev_max {i j : Int} (ha : Ev ta σ H (.int i)) (hb : Ev tb σ H (.int j)) : Ev (tCB rMax2 (tCons ta (tCons tb tNil))) σ H (.int (max i j)) := ev_is (ev_max2 ha hb) (congrArg V.int (by omega))
/-- for target in .., nothing known is changed -/
theorem s_forW {tu : TS} {D : Ends} (hw : EvW wi σ H n Y) (Pv : Hp → Nat → L2.St → Hp → Prop) (h0 : ∀ H1, Ex H H1 → Pv H1 0 σ H1) (hG : ∀ H1 i σ' H', Pv H1 i σ' H' → Ex H1 H')
    (hs : ∀ H0 i x σ' H1 H2, Ex H H0 → i < n → Pv H0 i σ' H1 → Y i H1 x H2 → g x σ' H2 fun σ2 H3 => tu { D with nx := Pv H0 (i + 1), ct := Pv H0 (i + 1), bk := D.nx } σ2 H3) (hd : ∀ H0 σ' H', Ex H H0 → Pv H0 n σ' H' → D.nx σ' H') : tFor wi g tu D σ H :=
  hw H (Ex.refl H) _ fun J H0 G e w q => for_it w (Pv H0) (h0 H0 e) (fun i σ' H' _ p => q H' (hG H0 i σ' H' p)) (fun i x σ' H1 H2 hi p yy => hs H0 i x σ' H1 H2 e hi p yy) fun σ' H' p => hd H0 σ' H' e p
theorem q_forW {tu tz : TS} {D : Ends} (hw : EvW wi σ H n Y) (Pv : Hp → Nat → L2.St → Hp → Prop) (h0 : ∀ H1, Ex H H1 → Pv H1 0 σ H1) (hG : ∀ H1 i σ' H', Pv H1 i σ' H' → Ex H1 H')
    (hs : ∀ H0 i x σ' H1 H2, Ex H H0 → i < n → Pv H0 i σ' H1 → Y i H1 x H2 → g x σ' H2 fun σ2 H3 => tu { D with nx := Pv H0 (i + 1), ct := Pv H0 (i + 1), bk := tz D } σ2 H3) (hd : ∀ H0 σ' H', Ex H H0 → Pv H0 n σ' H' → tz D σ' H') : tSeq (tFor wi g tu) tz D σ H :=
  s_forW (D := { D with nx := tz D }) hw Pv h0 hG hs hd
/-- for a, b in zip(xs, ys), ys new; the body may change what it likes but the two -/
theorem q_forZip {tu tz : TS} {D : Ends} (hn : n = min xs.length ys.length) (h1 : Ev ta σ H (.ref a)) (hx : SqL K H a xs) (h2 : EvL tb σ H ys)
    (k : ∀ (b : Addr) (H1 : Hp), Ex H H1 → H b = none → H1 b = some (.lst ys) → ∃ Pv : Nat → L2.St → Hp → Prop, Pv 0 σ H1 ∧ (∀ i σ' H', Pv i σ' H' → SqL K H' a xs ∧ SqL K H' b ys) ∧
      (∀ i x σ' H2 H3, i < n → Pv i σ' H2 → YPair (fun i => xs[i]?) (fun i => ys[i]?) i H2 x H3 → g x σ' H3 fun σ2 H4 => tu { D with nx := Pv (i + 1), ct := Pv (i + 1), bk := tz D } σ2 H4) ∧ (∀ σ' H', Pv n σ' H' → tz D σ' H')) : tSeq (tFor (iZip K (tCons ta (tCons tb tNil))) g tu) tz D σ H :=
  h1 H (Ex.refl H) _ fun H1 e1 => h2 H1 e1 _ fun b H2 nb e2 hb => by
    obtain ⟨Pv, p0, pG, ps, pd⟩ := k b H2 (e1.trans e2) (fresh_back e1 nb) hb
    exact ⟨a, b, xs, ys, rfl, ex_l (e1.trans e2) hx, sq_new hb, for_it (D := { D with nx := tz D }) (walk_zip hn) Pv p0 (fun i σ' H' _ p => pG i σ' H' p) ps pd⟩
end
/-! ### chunks -/
theorem rgC_table {c m : Nat} (hc : 0 < c) (hc2 : c ≤ 32) (hm : m ≤ 64) : RgC 0 ((c * m : Nat) : Int) (c : Int) m := by
  have e : Builtin.Range.rangeSize 0 ((c * m : Nat) : Int) (c : Int) = (m : Int) := by
    rw [rangeSize_pos (by omega) (by omega)]
    have h : ((c * m : Nat) : Int) + (c : Int) - 1 = ((c * m + (c - 1) : Nat) : Int) := by omega
    rw [h, ← Int.natCast_ediv, Nat.mul_add_div hc, Nat.div_eq_of_lt (by omega)]
    rfl
  have b : c * m ≤ 32 * 64 := Nat.mul_le_mul hc2 hm
  refine ⟨by omega, by omega, ?_, e⟩
  unfold Builtin.Range.small
  rw [e]
  generalize c * m = k at b
  simp only [Builtin.Range.rangeFitsLong, Bool.and_eq_true, Bool.or_eq_true, decide_eq_true_eq, beq_iff_eq]
  have h0 : (c : Int) > 0 := by omega
  rw [if_pos h0]
  simp only [Bool.and_eq_true, decide_eq_true_eq]
  omega
end LC
set_option Elab.async false
set_option maxRecDepth 100000
set_option maxHeartbeats 4000000
namespace LC
open PySem PySem.Spec PyProof.Rows L2 Evl
/-! ### sorted(range(n), key=lambda place: phases[place]), over the bare heap -/
section
variable {prog : Program} {w : World} {A : Around} {E : Value → Shared → Prop} {s : Shared}
/-- sorted of a range: its list is made, then sorted in place -/
theorem sorted_range_of_sort {r : Addr} {a b c : Int} {t u v : Tok} {n : Nat} {kw : List (Str × Value)} {Q : Value → Shared → Prop} (hh : A.handled = none) (hr : IsRange s.heap r a b c t u v) (hsmall : Builtin.Range.small a b c = true) (hn : Builtin.Range.rangeSize a b c = n) (hlen : n ≤ 2 ^ 24)
    (ha1 : argsOk "sorted" ⟨[.ref r], kw⟩) (ha2 : ∀ x, argsOk "list.sort" ⟨[.ref x], kw⟩)
    (body : ∀ (h' : Heap) (tk : Nat) (acc : Array Value) (E' : Value → Shared → Prop), (∀ b o, s.heap.get? b = some o → h'.get? b = some o) → ItemsOf (fun i v => ∃ t, v = .int (a + i * c) t) acc n →
      wpAny (model prog w) A.in1.in1 (Builtin.«list.sort» ⟨[.ref h'.objs.size], kw⟩) (fun f s' => f = .done (.ret .none) ∧ Q (.ref h'.objs.size) s') E' { s with heap := h'.push (seqObj "list" acc.toList.toArray 0), toks := tk }) :
    wpAny (model prog w) A (call (.builtin "sorted") [.ref r] kw) Q E s := by
  refine call_function_entry_kw kind_sorted plain_sorted entry_sorted ha1 (?_ : wpAny _ _ (Builtin.«sorted» _) _ _ _)
  unfold Builtin.«sorted»
  refine wpAny_bind (wpAny_pure (?_ : wpAny _ _ _ _ _ s))
  refine wpAny_bind (collect_range (A := A.in1) hh hr hsmall hn hlen fun h' tk acc hk hi => ?_)
  refine wpAny_bind (wpAny_newList ?_ (by rw [Array.length_toList, hi.1, sizeLine_eq]; omega))
  refine wpAny_bind (wpAny_holding (wpAny_call_entry_kw slot_list_sort ⟨_, Heap.get?_push_size _ rfl, rfl⟩ entry_list_sort ?body (ha2 _)))
  case body =>
    show wpAny (model prog w) A.in1.in1 (Builtin.«list.sort» ⟨[.ref h'.objs.size], kw⟩) _ _ _
    refine wpAny_mono (body h' tk acc _ hk hi) (fun f s' hf => ?_) fun _ _ e => e
    obtain ⟨rfl, hq⟩ := hf
    exact ⟨_, rfl, wpAny_pure ⟨_, rfl, hq⟩⟩
/-- the lambda's text: one name captured, one parameter, the one by the other -/
structure LamIs (params : Arguments) (body : Expr) (scope : Scope) : Prop where
  bod : ∃ p1 p2 p3, body = .Subscript (.Name "phases" p1) (.Name "place" p2) p3
  names : scope.names = [(("place" : Str), NameKind.local), (("phases" : Str), NameKind.free)]
  kind : scope.kind = .function
  co : scope.isCoroutine = false
  gen : scope.isGenerator = false
  bind : ∀ (q : Str) (cl : List (Str × Addr)) (pm cv ctv u : Value), bindArgs (PySem.W.kla_fn "<lambda>" q params body scope cl pm cv ctv) ⟨[u], []⟩ = pure [(("place" : Str), u)]
/-- a call of it: the item at the place; all that was there stays -/
theorem lam_call {f cp pa c' : Addr} {q : Str} {params : Arguments} {body : Expr} {scope : Scope} {pm ctv : Value} {items : Array Value} {i : Nat} {t tz : Tok} {z : Int} (L : LamIs params body scope) (hroom : A.depth < recursionLimit)
    (ho : s.heap.get? f = some (PySem.W.kla_obj "<lambda>" q params body scope [(("phases" : Str), cp)] pm c' ctv)) (hcd : s.heap.CodeRec (.ref c') q) (hcell : s.heap.IsCell cp (some (.ref pa))) (hl : s.heap.IsList pa items) (hi : items[i]? = some (.int z tz)) (hi63 : (i : Int) < 2 ^ 63) (hlim : s.heap.NoLimit) :
    wpAny (model prog w) A (call (.ref f) [.int (i : Int) t]) (PySem.W.KeyPure (.int z) s) (fun _ _ => False) s := by
  obtain ⟨p1, p2, p3, hb⟩ := L.bod
  refine wpAny_call ?_
  refine PySem.W.kla_callFunE hroom ho rfl L.co L.gen rfl hcd ?_
  rw [L.bind]
  refine wpAny_pure (wpAny_newFunctionEnv (fun x hx => ?_) (fun x hx => ?_) (fun h₁ hns hsb => ⟨hlim.fresh _ hsb, ?_⟩) L.kind)
  · have hx' : x ∈ [(("place" : Str), NameKind.local), (("phases" : Str), NameKind.free)] := L.names ▸ hx
    simp only [List.mem_cons, List.not_mem_nil, or_false] at hx'
    rcases hx' with rfl | rfl <;> simp
  · have hx' : x = (("place" : Str), Value.int (i : Int) t) := List.mem_singleton.mp hx
    subst hx'
    show scope.names.lookup ("place" : Str) = some .local
    rw [L.names]
    rfl
  have kp : ∀ x ob, s.heap.get? x = some ob → h₁.get? x = some ob := fun x ob at1 => hsb.extBut x ob (Nat.ne_of_lt (Heap.lt_size at1)) (Heap.get?_push_of_some _ at1)
  have ph_pl : (("phases" : Str) == ("place" : Str)) = false := by decide +kernel
  have k1 : scope.names.lookup ("place" : Str) = some .local := by
    rw [L.names]
    simp [List.lookup]
  have k2 : scope.names.lookup ("phases" : Str) = some .free := by
    rw [L.names]
    simp [List.lookup, ph_pl]
  refine PySem.W.kla_codeExpr ?_
  show wpAny _ _ (eval body (PySem.W.envX q scope s.heap.objs.size f (.ref c') [(("phases" : Str), cp)])) _ _ _
  rw [hb]
  obtain ⟨oc, hoc, hdc⟩ := hcell
  obtain ⟨ol, hol, rl⟩ := hl
  refine Subscript_ ?_
  refine wpAny_Name (wpAny_loadName_free (c := cp) (v := .ref pa) L.kind k2 (by show List.lookup ("phases" : Str) [(("phases" : Str), cp)] = some cp; simp [List.lookup]) ⟨oc, kp _ _ hoc, hdc⟩ ?_)
  refine wpAny_Name (wpAny_loadName_local (v := .int (i : Int) t) L.kind k1 hns (by show List.lookup ("place" : Str) [(("place" : Str), Value.int (i : Int) t)] = _; simp [List.lookup]) ?_)
  refine item_listR (x := .int z tz) ⟨ol, kp _ _ hol, rl⟩ (by omega) hi63 (by simpa using hi) ?_
  exact ⟨h₁, _, rfl, kp, .int _ _⟩
end
/-! ### the rule -/
section
variable {X : Cx}
theorem cr_range1 : CallR X (.type "range") (fun vs H Q => ∃ j : Int, vs = [V.int j] ∧ ∀ p, H p = none → Q (.ref p) (upd H p (.rng 0 j))) := by
  intro pins s σ H vs us Q I r h
  obtain ⟨j, rfl, q⟩ := h
  obtain ⟨u1, rfl, ri⟩ := vals1 r
  obtain ⟨t, rfl⟩ := ri
  refine call_range_1 ⟨.ref _, upd H s.heap.objs.size (.rng 0 j), I.laid (t' := s.toks + 2) (fun b o e => Heap.get?_push_of_some _ e) (Nat.le_refl _) ?_, rfl, q _ (I.hok.fresh (Nat.le_refl _))⟩
  exact ⟨_, _, _, Heap.get?_push_size _ rfl⟩
end
/-- the places of the phases zs, by phase, equal ones in their order -/
def plcI (zs : List Int) : List Nat := (List.range zs.length).mergeSort fun a b => decide (zs.getD a 0 ≤ zs.getD b 0)
def tSortLam (K : PySem.W.Frag) (q : Str) (P : Addr) (i : Nat) (ta : TA) : TE := fun σ H Q => ta σ H fun vs H1 => ∃ (r pa : Addr) (zs : List Int), vs = [.ref r] ∧ H1 r = some (.rng 0 (zs.length : Int)) ∧ zs.length ≤ 40000 ∧ σ[i]? = some (some (.ref pa)) ∧ SqL K H1 pa (zs.map V.int) ∧ LamX.TabS H1 P q ∧
  ∀ (H2 : Hp) (p : Addr), LamX.ExtN H1 H2 → LamX.TabS H2 P q → H2 p = some (.lst ((plcI zs).map fun k : Nat => V.int (k : Int))) → Q (.ref p) H2
theorem each_range {vs : List Value} {n : Nat} (hl : vs.length = n) (h : ∀ (j : Nat) (v : Value), vs[j]? = some v → ∃ t, v = .int (j : Int) t) : PySem.W.EachIs (fun v (j : Nat) => ∃ t, v = Value.int (j : Int) t) vs (List.range n) := by
  have go : ∀ (vs : List Value) (k : Nat), (∀ (j : Nat) (v : Value), vs[j]? = some v → ∃ t, v = .int ((k + j : Nat) : Int) t) → PySem.W.EachIs (fun v (j : Nat) => ∃ t, v = Value.int (j : Int) t) vs (List.range' k vs.length) := by
    intro vs
    induction vs with
    | nil => intro k _; exact .nil
    | cons v r ih =>
      intro k h
      rw [List.length_cons, List.range'_succ]
      refine .cons (by simpa using h 0 v rfl) (ih (k + 1) fun j u hu => ?_)
      obtain ⟨t, e⟩ := h (j + 1) u (by simpa using hu)
      exact ⟨t, by rw [e]; congr 1; omega⟩
  have z := go vs 0 fun j v hv => by simpa using h j v hv
  rw [hl, ← List.range_eq_range'] at z
  exact z
theorem vals_each : ∀ {vs : List Value} {ks : List Nat}, PySem.W.EachIs (fun v (j : Nat) => ∃ t, v = Value.int (j : Int) t) vs ks → Vals (ks.map fun k : Nat => V.int (k : Int)) vs
  | _, _, .nil => .nil
  | _, _, .cons h t => .cons h (vals_each t)
section
variable {X : Cx} {q : Str} {c P : Addr} {i : Nat} {e : Expr} {ta : TA} {params : Arguments} {body : Expr} {scope : Scope} {lpos kpos p pos : Pos}
theorem pe_sortedLam (hc : X.calm = true) (hg : Gl X "sorted") (hm : X.mg "sorted" = none) (ha : PA X [e] ta) (TB : LamX.TabB X.base X.mg c P) (hcode : X.env.code = .ref c) (hq : X.env.qual ++ "<lambda>" = q) (L : LamIs params body scope) (hr : Room 1 X.A)
    (hdef : defaultsOf params X.env = ([], [])) (hN : X.N[i]? = some ("phases" : Str)) (hcell : X.env.scope.names.lookup ("phases" : Str) = some .cell)
    (he : backTo pos (starEach [e] X.env) = (false, eval e X.env) :: backTo pos (starEach [] X.env) := by rfl) (hpl : (backTo pos (starEach [e] X.env)).any (·.1) = false := by rfl) :
    PE X (.Call (.Name "sorted" p) [e] [⟨some "key", .Lambda params body scope lpos, kpos⟩] pos) (tSortLam X.K q P i ta) := by
  refine ⟨fun pins s σ H Q I h => ?_⟩
  refine wpAny_Call_Name_kw (ld_blt I hg hm boot_sorted ?_)
  refine PyProof.Rows.callWith_kw (thn (ha.run pos pins s σ H _ I h) fun us s1 ⟨vs, H1, I1, r1, q1⟩ => ?_) he hpl (by rfl) (by rfl)
  obtain ⟨r, pa, zs, rfl, hrng, hz, hsl, hS, hT, k⟩ := q1
  obtain rfl := Vals.ref1 r1
  have hfree : ∀ y ∈ scope.names, y.2 = .free → ∃ c, X.env.cells.lookup y.1 = some c := fun y hy hf => by
    rw [L.names] at hy
    simp only [List.mem_cons, List.not_mem_nil, or_false] at hy
    rcases hy with rfl | rfl
    · cases hf
    · exact I1.ok.has _ (.inl hcell)
  show wpAny _ _ (evalAll ((do let v ← eval (.Lambda params body scope lpos) X.env; standAt pos; pure v) :: [])) _ _ s1
  subst hq
  refine wpAny_evalAll_cons (wpAny_bind (LamX.lam_make2 (T := [(P, X.env.qual ++ "<lambda>")]) I1 TB hcode (List.mem_singleton.mpr rfl) (fun p hp _ => by rw [List.mem_singleton.mp hp]) (fun p hp => by rw [List.mem_singleton.mp hp]; exact hT) hdef hfree fun f c' pm ctv H2 s2 I2 eN T2 hf hfn hfr hco => wpAny_bind (wpAny_standAt (wpAny_pure (wpAny_evalAll_nil ?_)))))
  show wpAny _ _ (call (.builtin "sorted") [.ref r] [(Str.ofString "key", .ref f)]) _ _ s2
  have T2' : LamX.TabS H2 P (X.env.qual ++ "<lambda>") := T2 _ (List.mem_singleton.mpr rfl)
  -- what stands at s2
  have hrng2 : H2 r = some (.rng 0 (zs.length : Int)) := eN _ _ hrng fun _ z => by cases z
  obtain ⟨t1, t2, t3, hrg⟩ := I2.hok r _ hrng2
  have hS2 : SqL X.K H2 pa (zs.map V.int) := by
    rcases hS with (h | ⟨o, h⟩) | h
    · exact .inl (.inl (eN _ _ h fun _ z => by cases z))
    · exact .inl (.inr ⟨o, eN _ _ h fun _ z => by cases z⟩)
    · exact .inr h
  obtain ⟨its, rv, pl, _⟩ := I2.list hS2
  have hil := pl.isList
  obtain ⟨m, hns, hloc⟩ := I2.loc
  obtain ⟨u, ru, hlook⟩ := hloc i _ _ hN hsl (.inr (.inl hcell))
  obtain rfl : u = Value.ref pa := ru
  obtain ⟨cp, hcp, hcv⟩ : ∃ cp, X.env.cells.lookup ("phases" : Str) = some cp ∧ s2.heap.IsCell cp (some (.ref pa)) := by
    rcases hlook with ⟨hk, _⟩ | ⟨_, cp, h1, h2⟩
    · rw [show X.env.scope.names.lookup ("phases" : Str) = some .local from hk] at hcell
      cases hcell
    · exact ⟨cp, h1, h2⟩
  have hclo : cloFrom X.env.cells scope.names [] = [(("phases" : Str), cp)] := by
    rw [L.names]
    show [(("phases" : Str), (X.env.cells.lookup ("phases" : Str)).getD 0)] = _
    rw [hcp]
    rfl
  rw [hclo] at hf
  obtain ⟨⟨oc, ovs, ot, hoc, hod, hov⟩, _, _⟩ := I2.hok c' _ hco
  have hlim := I2.nolimit
  have hlen := rv.length
  rw [List.length_map] at hlen
  refine sorted_range_of_sort (n := zs.length) (I2.ok.hd hc) hrg (small_one (by decide) (by decide) (by omega) (by omega)) (by rw [rangeSize_nat]; omega) (by omega) (ksk_s1 _ _) (fun _ => ksk_l1 _ _) fun h' tk acc E' hk hi => ?_
  rw [ksk_t1]
  have hal : acc.toList.length = zs.length := by rw [Array.length_toList, hi.1]
  have hR : PySem.W.EachIs (fun v (j : Nat) => ∃ t, v = Value.int (j : Int) t) acc.toList (List.range zs.length) := each_range hal fun j v hv => by
    obtain ⟨t, e⟩ := hi.2 j v (by rw [← hv, Array.getElem?_toList])
    exact ⟨t, by rw [e]; congr 1; omega⟩
  have kp1 : ∀ b o, s2.heap.get? b = some o → (h'.push (seqObj "list" acc.toList.toArray 0)).get? b = some o ∧ b ≠ h'.objs.size := fun b o e => ⟨Heap.get?_push_of_some _ (hk b o e), Nat.ne_of_lt (Heap.lt_size (hk b o e))⟩
  refine PySem.W.keyH_tree (kz := (List.range zs.length).map fun j => PyData.int (zs.getD j 0)) (s := { s2 with heap := h'.push (seqObj "list" acc.toList.toArray 0), toks := tk }) (Heap.get?_push_size _ rfl) (by rw [List.length_map, List.length_range, hal]) (by rw [hal, sizeLine_eq]; omega) ?_ ?_ ?_ ?_ ?_
  · intro d hd d' hd'
    obtain ⟨j, _, rfl⟩ := List.mem_map.mp hd
    obtain ⟨j', _, rfl⟩ := List.mem_map.mp hd'
    rfl
  · refine .inr fun d hd => ?_
    obtain ⟨j, _, rfl⟩ := List.mem_map.mp hd
    exact ⟨fun z => (by cases z), fun xs z => (by cases z)⟩
  · intro d hd
    obtain ⟨j, _, rfl⟩ := List.mem_map.mp hd
    have h1 := hr.un
    have h2 : PyData.depth (PyData.int (zs.getD j 0)) = 0 := rfl
    have h3 : X.A.in1.in1.units = X.A.units + 1 + 1 := rfl
    omega
  · intro j v d hv hd g tk2 kp
    rw [List.getElem?_map] at hd
    have hj : j < zs.length := by
      have := (List.getElem?_eq_some_iff.mp hv).1
      omega
    rw [List.getElem?_range hj] at hd
    have hd' : PyData.int (zs.getD j 0) = d := Option.some.inj hd
    subst hd'
    obtain ⟨t, ev⟩ := hi.2 j v (by rw [← hv, Array.getElem?_toList])
    have ev' : v = .int (j : Int) t := by rw [ev]; congr 1; omega
    subst ev'
    have kg : ∀ b o, s2.heap.get? b = some o → g.get? b = some o := fun b o e => kp b o (kp1 b o e).2 (kp1 b o e).1
    obtain ⟨uz, huz, rz⟩ := rv.get (show (zs.map V.int)[j]? = some (V.int (zs.getD j 0)) by
      rw [List.getElem?_map, List.getElem?_eq_getElem hj, List.getD_eq_getElem?_getD, List.getElem?_eq_getElem hj]
      rfl)
    obtain ⟨tz, rfl⟩ := rz
    obtain ⟨ocell, hoce, hdce⟩ := hcv
    obtain ⟨ol, hol, rl⟩ := hil
    exact lam_call (s := { s2 with heap := g, toks := tk2 }) (items := its.toArray) L (by have := hr.dp; show X.A.depth < recursionLimit; omega) (kg _ _ hf) ⟨c', oc, ovs, ot, rfl, kg _ _ hoc, hod, hov⟩ ⟨ocell, kg _ _ hoce, hdce⟩ ⟨ol, kg _ _ hol, rl⟩ (by simpa using huz) (by omega) (hlim.keeps kg)
  · intro h3 tk3 out c3 kp ho ko
    refine ⟨rfl, ?_⟩
    have hE := PySem.W.keyedOut_each (fun j => PyData.int (zs.getD j 0)) ko hR
    rw [PySem.W.dataLe_int] at hE
    have hv := vals_each hE
    have I3 : Inv X pins σ H2 { s2 with heap := h', toks := tk } := I2.kept hk
    refine ⟨.ref h'.objs.size, upd H2 h'.objs.size (.lst ((plcI zs).map fun k : Nat => V.int (k : Int))), I3.laid (t' := tk3) (fun b o e => kp b o (Nat.ne_of_lt (Heap.lt_size e)) (Heap.get?_push_of_some _ e)) (Nat.le_refl _) ⟨?_, out, c3, hv, ho⟩, rfl, ?_⟩
    · unfold plcI
      rw [List.length_map, List.length_mergeSort, List.length_range, sizeLine_eq]
      omega
    · have hn : H2 h'.objs.size = none := I3.hok.fresh (Nat.le_refl _)
      refine k _ _ (eN.trans (LamX.ExtN.of fun b o e => by rw [upd_ne (ne_of_none e hn)]; exact e)) (T2'.ext fun b o e => by rw [upd_ne (ne_of_none e hn)]; exact e) upd_same
end
end LC
set_option Elab.async false
set_option maxRecDepth 100000
namespace LC
open PySem PySem.Spec PyProof.Rows L2 Evl LamX
/-! ### the end of a row of which a def makes a lambda: that def's code table is tracked, too -/
section
variable {pr : Program} {wo : World} {K : PySem.W.Frag} {hp : Heap} {area : List Addr} {tb cd : Addr} {mg : Str → Option Value}
/-- what was handed in, and the table -/
def reqH (K : PySem.W.Frag) (hp : Heap) (area : List Addr) (tb : Addr) : Hp := upd (argH K hp area) tb (.tbl #[])
/-- neither a sequence nor an empty table -/
def Other (ob : Obj) : Prop := (∀ items cap, ob.data ≠ .seq items cap) ∧ ob.data ≠ .fields #[]
theorem other_dict {ob : Obj} {es : Array DictEntry} {n : Nat} (e : ob.data = .dict es n) : Other ob := by
  constructor
  · intro items cap z
    exact nomatch e.symm.trans z
  · intro z
    exact nomatch e.symm.trans z
theorem other_plain {ob : Obj} (e : ob.data = .plain) : Other ob := by
  constructor
  · intro items cap z
    exact nomatch e.symm.trans z
  · intro z
    exact nomatch e.symm.trans z
theorem other_fields {ob : Obj} {xs : Array Value} {x : Value} (e : ob.data = .fields xs) (i : Nat) (hx : xs[i]? = some x) : Other ob := by
  constructor
  · intro items cap z
    exact nomatch e.symm.trans z
  · intro z
    have y : xs = #[] := Data.fields.inj (e.symm.trans z)
    rw [y] at hx
    exact nomatch hx
variable (good : ∀ a ∈ area, ArgOb hp area a) (at0 : hp.get? tb = some (PySem.W.tabObj #[]))
include good
/-- what is tracked beside the table: a frozen sequence that the written part lacks -/
theorem reqH_frz {b : Addr} {u : HO} (ne : b ≠ tb) (e : reqH K hp area tb b = some u) : K.lookup b = none ∧ (∃ ob x, u = .frz ob x) ∧ ∃ ob items cap, hp.get? b = some ob ∧ ob.data = .seq items cap := by
  have e' : argH K hp area b = some u := by
    rw [← e]
    exact (upd_ne ne).symm
  obtain ⟨free, items, _, _, way⟩ := argH_is good e'
  rcases way with ⟨at1, eu⟩ | ⟨at1, eu⟩ <;> exact ⟨free, ⟨_, _, eu⟩, _, _, _, at1, rfl⟩
include at0
theorem arg_not_tab : argH K hp area tb = none := by
  rcases hq : argH K hp area tb with _ | u
  · rfl
  · obtain ⟨_, items, _, _, way⟩ := argH_is good hq
    rcases way with ⟨at1, _⟩ | ⟨at1, _⟩ <;> exact nomatch congrArg Obj.data (Option.some.inj (at0.symm.trans at1))
theorem reqH_other {b : Addr} {ob : Obj} (e : hp.get? b = some ob) (oth : Other ob) : reqH K hp area tb b = none := by
  rcases hq : reqH K hp area tb b with _ | u
  · rfl
  · by_cases eq : b = tb
    · rw [eq, at0] at e
      exact (oth.2 (congrArg Obj.data (Option.some.inj e)).symm).elim
    · obtain ⟨_, _, ob', items, cap, at1, ed⟩ := reqH_frz good eq hq
      rw [at1] at e
      exact (oth.1 _ _ ((congrArg Obj.data (Option.some.inj e)).symm.trans ed)).elim
theorem reqH_ok : HOk pr wo (reqH K hp area tb) hp := by
  intro b u hq
  by_cases eq : b = tb
  · subst eq
    have eu : HO.tbl #[] = u := Option.some.inj (upd_same.symm.trans hq)
    subst eu
    exact at0
  · have up : ∀ a x, argH K hp area a = some x → reqH K hp area tb a = some x := Ex.new (arg_not_tab good at0)
    exact (argH_ok good b u ((upd_ne eq).symm.trans hq)).stay (fun _ _ _ z => z) (fun a z => up a _ z) fun a _ z => up a _ z
/-- the heap without what is tracked keeps the rest -/
theorem rest_other {b : Addr} {ob : Obj} (e : hp.get? b = some ob) (oth : Other ob) : (hidT hp (reqH K hp area tb)).get? b = some ob := hidT_get e (reqH_other good at0 e oth)
theorem rest_ns {b : Addr} {m : Str → Option Value} (N : hp.Ns b m) : (hidT hp (reqH K hp area tb)).Ns b m := by
  obtain ⟨ob, es, n, at1, ed, more⟩ := N
  exact ⟨ob, es, n, rest_other good at0 at1 (other_dict ed), ed, more⟩
omit at0 in
theorem rest_in (X : K.In hp) (noT : K.lookup tb = none) : K.In (hidT hp (reqH K hp area tb)) := by
  intro b ob e
  refine hidT_get (X b ob e) ?_
  rcases hq : reqH K hp area tb b with _ | u
  · rfl
  · by_cases eq : b = tb
    · rw [eq, noT] at e
      exact nomatch e
    · exact nomatch (reqH_frz good eq hq).1.symm.trans e
theorem rest_tab (G : hp.Ns mainGlobals mg) (code : PySem.W.CodeHd hp cd tb)
    (main : ∃ bm ob, mg "__builtins__" = some (.ref bm) ∧ bm ≠ builtinsNs ∧ hp.get? bm = some ob ∧ ob.cls = .type "module" ∧ ob.dict = some builtinsNs ∧ ob.data = .plain) : TabB (hidT hp (reqH K hp area tb)) mg cd tb := by
  obtain ⟨go, ges, gn, gat, gd, _⟩ := G
  constructor
  · rcases code with ⟨ob, xs, f1, f2, f3, f4, f5, f6, f7, at1, f8, ed, slot, more⟩
    exact ⟨ob, xs, f1, f2, f3, f4, f5, f6, f7, rest_other good at0 at1 (other_fields ed 11 slot), f8, ed, slot, more⟩
  · rcases main with ⟨bm, ob, m1, m2, at1, m3, m4, ed⟩
    have away : ∀ {x : Addr} {o2 : Obj}, hp.get? x = some o2 → o2.data ≠ .plain → bm ≠ x := fun at2 n z => by
      rw [← z, at1] at at2
      exact n ((congrArg Obj.data (Option.some.inj at2)).symm.trans ed)
    exact ⟨bm, ob, m1, m2, away gat (fun z => nomatch gd.symm.trans z), away at0 (fun z => nomatch z), rest_other good at0 at1 (other_plain ed), m3, m4, ed⟩
  · intro z
    rw [z, at0] at gat
    exact nomatch (congrArg Obj.data (Option.some.inj gat)).trans gd
end
/-- the row, the promise hanging on the written part and on the table's place: as the library's own end of a row, but that the promise may lean on the table -/
theorem walk_specT {r : PySem.W.OpenSpec} {lv : Nat} {q : Program} {loose : List Str} {XP : (Str → Option Value) → Heap → Prop} {YP : World → Heap → Prop} {d d2 : DefRec} {K : Params → PySem.W.Frag} {CX : CXT} {ps : List Str} {lam : Str} {sp : PySem.W.Frag → Addr → Sp}
    (said : r.wellSaid = true) (count : r.args.length = ps.length) (room : Room lv callerA) (part : ∀ wo hp, YP wo hp → (K wo.params).In hp) (rec2 : (recsOf q).find? (fun x => x.name == lam) = some d2)
    (F : ∀ (wo : World) (mg : Str → Option Value) (fa : Addr) (hp : Heap), YP wo hp → (K wo.params).In hp → hp.Ns mainGlobals mg → mg d.name = some (.ref fa) →
      ∃ (fd : FuncData) (cd tb : Addr), PySem.W.tabIn (K wo.params) lam = some (cd, tb) ∧ PySem.W.noTabs (K wo.params) = true ∧ (∀ (s : Shared) (us : List Value), us.length = ps.length → BindsTo s fd ⟨us, []⟩ (ps.zip us)) ∧
        ∀ rest : Heap, (K wo.params).In rest → rest.Ns mainGlobals mg → TabB rest mg cd tb → FnOk r.prog wo (K wo.params) mg rest CX lv fa fd ps (sp (K wo.params) tb))
    (hsp : ∀ (K : PySem.W.Frag) (tb : Addr) (H H1 : Hp) (xs : List V) (a : PySem.W.Codec.denoteAll r.args), Ex H H1 → H1 tb = some (.tbl #[]) → PySem.W.Codec.withinAll r.args a = true → PySem.W.Codec.app r.args r.asked a = true → DwAll K H xs (PySem.W.Codec.encAll r.args a) →
      sp K tb xs H1 (fun v H' => Dw K H' v (r.ret.enc (PySem.W.Codec.app r.args r.f a))) fun _ _ _ => False)
    (calm : ∀ (H : Hp) (s : Shared) (x : Value) (s' : Shared), CX [] H s (fun _ _ _ => False) x s' → False) :
    PySem.W.WalkOS q loose XP YP r d [] fun g vs => PySem.call g vs := by
  intro wo old now mg mb ground Y fa ob pm cdv doc dV kV at1 isF codeF dfl named gens0 args vals as pre lay reads well low
  obtain ⟨a, dec, asked⟩ := PySem.W.os_pre_some pre
  obtain ⟨enc, within⟩ := PySem.W.Codec.encAll_of_decAll r.args args a dec
  subst enc
  have X := part wo _ Y
  have top := ground.T
  obtain ⟨fd, cd, tb, isTab, bare, binds, fun_⟩ := F wo mg fa _ Y X top.g named
  obtain ⟨code, at0⟩ := PySem.W.tab_of top X rec2 isTab
  have noT : (K wo.params).lookup tb = none := by
    rcases hk : (K wo.params).lookup tb with _ | o2
    · rfl
    · have eo : PySem.W.tabObj #[] = o2 := Option.some.inj (at0.symm.trans (X tb o2 hk))
      subst eo
      exact nomatch List.all_eq_true.mp bare _ (PySem.W.mem_of_lookupK hk)
  obtain ⟨area, own, good⟩ := area_all _ vals well (pl_encAll _ _) (layable_weight lay)
  -- the call, from what is tracked at the start
  have ask := hsp _ tb _ _ _ a (Ex.new (arg_not_tab (K := K wo.params) good at0)) upd_same within asked (dw_all X good _ vals well (pl_encAll _ _) own)
  have X0 := rest_in good X noT
  have N0 := rest_ns (K := K wo.params) good at0 top.g
  have base0 : L2.Mod (K wo.params) mg (hidT now.heap (reqH (K wo.params) now.heap area tb)) := by
    obtain ⟨mc, nc, lim⟩ := top.nolimit
    exact { kin := X0, glob := N0, blt := ⟨mb, rest_ns good at0 top.b, top.builtins⟩, nolimit := ⟨mc, rest_ns good at0 nc, lim⟩ }
  have start0 : Env0 r.prog wo (K wo.params) mg (hidT now.heap (reqH (K wo.params) now.heap area tb)) callerA [] now (reqH (K wo.params) now.heap area tb) :=
    { frames := rfl, mod := base0, bs := fun _ _ z => of_hidT z, bsz := Nat.le_of_eq (hidT_size ..), funs := trivial, frf := fun _ z => (nomatch z), hok := reqH_ok good at0, bare := .of_eq gens0 }
  have many : vals.length = ps.length := (wellAll_len well).trans ((encAll_len _ a).trans count)
  refine PySem.W.enter_call (codeAny_mono ((fun_ _ X0 N0 (rest_tab good at0 top.g code top.bmain)).run callerA [] now _ ⟨vals, []⟩ vals _ _ _ room start0 (binds now vals many) (vals_toV own) ask) fun res fin out => ?_)
  -- what it gives back
  match res, out with
  | .error x, out => exact (calm _ now x fin out).elim
  | .ok .next, out => exact False.elim out
  | .ok .brk, out => exact False.elim out
  | .ok .cont, out => exact False.elim out
  | .ok (.ret u), out =>
    rcases out with ⟨v, H', sameOs, noGens, kept, okEnd, rel, due⟩
    have stays : ∀ {b : Addr} {o : Obj}, b ≠ tb → now.heap.get? b = some o → fin.heap.get? b = some o := fun {b o} ne at2 => by
      rcases hq : reqH (K wo.params) now.heap area tb b with _ | z
      · exact kept.keep b o at2 hq (fun m => (nomatch m)) fun m => (nomatch m)
      · obtain ⟨_, ⟨o2, y, ez⟩, _⟩ := reqH_frz good ne hq
        rw [ez] at hq
        have first := (reqH_ok (pr := r.prog) (wo := wo) good at0 b _ hq).1
        rw [at2] at first
        cases first
        exact (okEnd b _ (kept.frzs b _ _ hq)).1
    have X1 : (K wo.params).In fin.heap := fun b o z => stays (fun w => nomatch (w ▸ noT).symm.trans z) (X b o z)
    obtain ⟨places, back⟩ := Dw.reads (R := []) (cl := classAt old.heap) okEnd X1 _ v u due rel
    obtain ⟨more, tbl⟩ := kept.tbls tb #[] upd_same
    have grown : fin.heap.get? tb = some (PySem.W.tabObj (#[] ++ more)) := okEnd tb _ tbl
    have still : OldK now.heap fin.heap := by
      constructor
      · intro b o at2
        by_cases eq : b = tb
        · subst eq
          have eo : PySem.W.tabObj #[] = o := Option.some.inj (at0.symm.trans at2)
          subst eo
          exact .inr (.inl ⟨(code.tab at0).isCodeTable, rfl, #[], more, rfl, grown⟩)
        · exact .inl (stays eq at2)
      · intro b o at2
        by_cases eq : b = tb
        · subst eq
          exact ⟨_, grown⟩
        · exact ⟨o, stays eq at2⟩
    have post := fun ds => (PySem.W.OpenSpec.post_iff said within (r.ret.enc (PySem.W.Codec.app r.args r.f a)) ds).mpr rfl
    exact ⟨.inl ⟨u, _, places, rfl, fun _ => rfl, back, post _, fun z => (nomatch z)⟩, still, sameOs, noGens⟩
end LC
namespace LC
open PySem PySem.Spec PyProof.Rows L2 Evl
/-! ### a def whose code object is told of -/
structure FunC (K : PySem.W.Frag) (x qual : Str) (st : Stmt) (f : Addr) (fd : FuncData) (c : Addr) : Prop where
  ex : ∃ (oc : Value) (od : Option Addr) (kV doc pm : Value) (an : Option Addr) (ct : Value) (osl : Array (Option Value)),
    fd = PySem.W.fnOf x qual (defArgs st) (defBody st) (defScope st) .none kV doc pm an (.ref c) ct ∧ K.lookup f = some ⟨oc, od, .func fd, osl⟩ ∧ PySem.W.codeIn K (.ref c) qual = true
  kp : PySem.W.keepIn K (.ref f) = true
section
variable {P : Program} {w : World} {K : PySem.W.Frag} {mg : Str → Option Value} {base : Heap}
theorem FunC.toFun {x qual : Str} {st : Stmt} {f : Addr} {fd : FuncData} {c : Addr} (F : FunC K x qual st f fd c) : Fun K x qual st f fd := by
  obtain ⟨oc, od, kV, doc, pm, an, ct, osl, h1, h2, h3⟩ := F.ex
  exact ⟨⟨oc, od, kV, doc, pm, an, .ref c, ct, osl, h1, h2, h3⟩, F.kp⟩
theorem FunC.ok {x qual : Str} {st : Stmt} {f : Addr} {fd : FuncData} {c : Addr} {N ps : List Str} {k : Nat} {sp : Sp} (F : FunC K x qual st f fd c) (S : FnScope N ps (defScope st)) (len : ∀ vs H Q E, sp vs H Q E → vs.length = ps.length)
    (hbody : ∀ (A : Around) (outer : List Env) (s : Shared) (H : Hp) (vs : List V) (Q : VK) (E : XK), Room k (A.deeper (envOfC qual (defScope st) s.heap.objs.size f (.ref c))) → sp vs H Q E →
      ∃ t, PSs (cxOf CX0 P w K mg base N qual (defScope st) f (.ref c) A outer s H E).nox (defBody st) t ∧ t { nx := fun _ H' => Q .non H', rt := Q } (start N vs) H) : FnOk P w K mg base CX0 (k + 1) f fd ps sp := by
  obtain ⟨oc, od, kV, doc, pm, an, ct, osl, rfl, lk, hcd⟩ := F.ex
  refine fn_of lk hcd S len fun A outer s H vs Q E hr hsp => ?_
  obtain ⟨t, h, q⟩ := hbody A outer s H vs Q E hr hsp
  exact ⟨t, h.nox, q⟩
theorem funC_mk {x qual : Str} {st : Stmt} {f : Addr} {oc : Value} {od an : Option Addr} {osl : Array (Option Value)} {kV doc pm ct : Value} {c : Addr} (l : K.lookup f = some ⟨oc, od, .func (PySem.W.fnOf x qual (defArgs st) (defBody st) (defScope st) .none kV doc pm an (.ref c) ct), osl⟩)
    (h : PySem.W.codeIn K (.ref c) qual = true) (k : PySem.W.keepIn K (.ref f) = true) : FunC K x qual st f (PySem.W.fnOf x qual (defArgs st) (defBody st) (defScope st) .none kV doc pm an (.ref c) ct) c := ⟨⟨oc, od, kV, doc, pm, an, ct, osl, rfl, l, h⟩, k⟩
end
/-- all but the tables stay: a list stays -/
theorem exN_sq {K : PySem.W.Frag} {H H' : Hp} {a : Addr} {xs : List V} (e : LamX.ExtN H H') (h : SqL K H a xs) : SqL K H' a xs := by
  rcases h with (h | ⟨o, h⟩) | h
  · exact .inl (.inl (e _ _ h fun _ z => by cases z))
  · exact .inl (.inr ⟨o, e _ _ h fun _ z => by cases z⟩)
  · exact .inr h
theorem exN_lst {H H' : Hp} {a : Addr} {xs : List V} (e : LamX.ExtN H H') (h : H a = some (.lst xs)) : H' a = some (.lst xs) := e _ _ h fun _ z => by cases z
/-! ### folding, in whole numbers -/
/-- the phases of times -/
def phI (per : Int) (ts : List Int) : List Int := ts.map fun t => ((Sh70.phase per.toNat t.toNat : Nat) : Int)
theorem phI_is (per : Int) (ts : List Int) : phI per ts = (phs per.toNat (Sh70Neutral.toNats ts)).map fun k : Nat => (k : Int) := by
  unfold phI phs Sh70Neutral.toNats
  rw [List.map_map, List.map_map]
  rfl
theorem phI_at (per : Int) (ts : List Int) (i : Nat) : (phI per ts).getD i 0 = ((Sh70.natAt (phs per.toNat (Sh70Neutral.toNats ts)) i : Nat) : Int) := by
  rw [phI_is]
  unfold Sh70.natAt
  rw [List.getD_eq_getElem?_getD, List.getD_eq_getElem?_getD, List.getElem?_map]
  cases (phs per.toNat (Sh70Neutral.toNats ts))[i]? <;> rfl
theorem phI_len (per : Int) (ts : List Int) : (phI per ts).length = ts.length := by
  unfold phI
  rw [List.length_map]
theorem plcI_is (per : Int) (ts : List Int) : plcI (phI per ts) = plc per.toNat (Sh70Neutral.toNats ts) := by
  have hf : (fun a b : Nat => decide ((phI per ts).getD a 0 ≤ (phI per ts).getD b 0)) = fun a b => decide (Sh70.natAt (phs per.toNat (Sh70Neutral.toNats ts)) a ≤ Sh70.natAt (phs per.toNat (Sh70Neutral.toNats ts)) b) := by
    funext a b
    rw [phI_at, phI_at]
    exact decide_eq_decide.mpr Int.ofNat_le
  unfold plcI plc
  rw [hf, phI_len, toNats_len]
/-- an entry of a folded series -/
def entO (e : Nat × Int) : HO := .tup [.int (e.1 : Int), .int e.2]
/-- the entries -/
def serO (s : List (Nat × Int)) : List HO := s.map entO
theorem serO_len (s : List (Nat × Int)) : (serO s).length = s.length := by
  unfold serO
  rw [List.length_map]
theorem serO_get {s : List (Nat × Int)} {i : Nat} {e : Nat × Int} (h : s[i]? = some e) : (serO s)[i]? = some (entO e) := by
  unfold serO
  rw [List.getElem?_map, h]
  rfl
/-- a folded series stands at p -/
def SerAt (H : Hp) (p : Addr) (qs : List Addr) (s : List (Nat × Int)) : Prop := H p = some (.lst (qs.map V.ref)) ∧ ObjsAt H qs (serO s)
theorem SerAt.mono {H H' : Hp} {p : Addr} {qs : List Addr} {s : List (Nat × Int)} (h : SerAt H p qs s) (e : Ex H H') : SerAt H' p qs s := ⟨e _ _ h.1, h.2.mono e⟩
theorem SerAt.len {H : Hp} {p : Addr} {qs : List Addr} {s : List (Nat × Int)} (h : SerAt H p qs s) : (qs.map V.ref).length = s.length := by
  rw [List.length_map, h.2.1, serO_len]
theorem SerAt.at {H : Hp} {p : Addr} {qs : List Addr} {s : List (Nat × Int)} (h : SerAt H p qs s) {i : Nat} {x : V} (hx : (qs.map V.ref)[i]? = some x) : ∃ q e, x = .ref q ∧ qs[i]? = some q ∧ s[i]? = some e ∧ H q = some (.tup [.int (e.1 : Int), .int e.2]) := by
  obtain ⟨q, o, rfl, h1, h2, h3⟩ := h.2.at hx
  unfold serO at h2
  rw [List.getElem?_map] at h2
  cases he : s[i]? with
  | none =>
    rw [he] at h2
    cases h2
  | some e =>
    rw [he] at h2
    have e2 : entO e = o := Option.some.inj h2
    subst e2
    exact ⟨q, e, rfl, h1, rfl, h3⟩
/-- places = sorted(range(n), key=lambda place: phases[place]) -/
theorem q_sortLam {K : PySem.W.Frag} {σ : L2.St} {H : Hp} {tl : TE} {tz : TS} {D : Ends} {q : Str} {P pa : Addr} {i j : Nat} {zs : List Int} (h : Ev tl σ H (.int (zs.length : Int))) (hz : zs.length ≤ 40000) (hi : σ[i]? = some (some (.ref pa))) (hS : SqL K H pa (zs.map V.int)) (hT : LamX.TabS H P q)
    (k : ∀ H2 p, LamX.ExtN H H2 → LamX.TabS H2 P q → H2 p = some (.lst ((plcI zs).map fun k : Nat => V.int (k : Int))) → tz D (σ.set j (some (.ref p))) H2) :
    tSeq (tAsg (tSortLam K q P i (tCons (tCB (fun vs H Q => ∃ j : Int, vs = [V.int j] ∧ ∀ p, H p = none → Q (.ref p) (upd H p (.rng 0 j))) (tCons tl tNil)) tNil)) (gName j)) tz D σ H :=
  h H (Ex.refl H) _ fun H2 e2 => ⟨_, rfl, fun r nr => by
    have e3 : Ex H (upd H2 r (.rng 0 (zs.length : Int))) := e2.trans (Ex.new nr)
    exact ⟨r, pa, zs, rfl, upd_same, hz, hi, ex_l e3 hS, hT.ext e3, fun H4 p e4 hT4 hp => k H4 p ((LamX.ExtN.of e3).trans e4) hT4 hp⟩⟩
/-- a call that hands on a folded series, in a statement of its own -/
theorem retSer_mono {T : Addr} {q : Str} {s : List (Nat × Int)} {H H' : Hp} {Q : VK} {R : (Addr → List Addr → Hp → Prop)} (k : ∀ p qs H2, LamX.ExtN H H2 → R p qs H2 → Q (.ref p) H2) (e : Ex H H') : ∀ p qs H2, LamX.ExtN H' H2 → R p qs H2 → Q (.ref p) H2 := fun p qs H2 e2 r => k p qs H2 ((LamX.ExtN.of e).trans e2) r
/-- a table with nothing in it -/
theorem tabS_new {H : Hp} {T : Addr} {q : Str} (h : H T = some (.tbl #[])) : LamX.TabS H T q := ⟨#[], h, by trivial, fun pos cv hc => by cases hc⟩
/-- the place of the table of folded_series -/
def tabP (K : PySem.W.Frag) : Addr := match PySem.W.tabIn K "folded_series" with
  | some p => p.2
  | none => 0
end LC
namespace LC
open PySem PySem.Spec PyProof.Rows L2 Evl
open PySem.W (WData Codec)
/-! ### the request -/
section
variable {K : PySem.W.Frag} {H : Hp} {x : V} {xs : List V}
theorem dw_int {i : Int} (h : Dw K H x (.int i)) : x = .int i := by
  cases h
  rfl
theorem dw_list {ns : List Int} (h : Dw K H x (.list (ns.map WData.int))) : ∃ a, x = .ref a ∧ SqL K H a (ns.map V.int) := by
  cases h with
  | lst hs ha =>
    rw [ints_dw ns _ ha] at hs
    exact ⟨_, rfl, hs⟩
theorem dw_cons {d : WData} {ds : List WData} (h : DwAll K H xs (d :: ds)) : ∃ x r, xs = x :: r ∧ Dw K H x d ∧ DwAll K H r ds := by
  cases h with
  | cons h1 h2 => exact ⟨_, _, rfl, h1, h2⟩
theorem dw_nil (h : DwAll K H xs []) : xs = [] := by
  cases h
  rfl
/-- the answer: a new list of whole numbers -/
theorem dw_ans {ns : List Int} {p : Addr} {H' : Hp} (h : H' p = some (.lst (ns.map V.int))) : Dw K H' (.ref p) (.list (ns.map WData.int)) := .lst (L2.SqL.of h) (L2.dw_ints _)
/-- a whole number of 32 bits -/
def u32 (n : Int) : Prop := 0 ≤ n ∧ n ≤ 4294967295
theorem u32_of {n : Int} (h : Codec.inInt 0 4294967295 n = true) : u32 n := Codec.inInt_iff.mp h
/-- a list of such -/
def u32s (most : Nat) (ns : List Int) : Prop := ns.length ≤ most ∧ ∀ n ∈ ns, u32 n
theorem u32s_of {most : Nat} {ns : List Int} (h : (Codec.inLen 0 most ns && ns.all (Codec.inInt 0 4294967295)) = true) : u32s most ns := by
  rw [Bool.and_eq_true] at h
  exact ⟨(Codec.inNat_iff.mp h.1).2, fun n hn => u32_of (List.all_eq_true.mp h.2 n hn)⟩
end
end LC
set_option Elab.async false
set_option maxRecDepth 100000
set_option maxHeartbeats 2000000
namespace LC
open PySem PySem.Spec PyProof.Rows L2 Evl
/-- the i-th statement of the program's text -/
def top (i : Nat) : Stmt := PySem.Challenge.pw_lightcurves_s08_best_box.main.body.getD i (.Pass ⟨0, 0, 0, 0⟩)
section
variable {P : Program} {w : World} {K : PySem.W.Frag} {mg : Str → Option Value} {base : Heap}
/-! ### signed -/
abbrev sSigned : Stmt := top 3
theorem scSigned : FnScope ["number"] ["number"] (defScope sSigned) := ⟨rfl, rfl, rfl, by decide +kernel, rfl, by decide +kernel, by decide +kernel⟩
def spSigned : Sp := fun vs H Q _ => ∃ n : Int, vs = [.int n] ∧ RetV (.int (sg n)) H Q
theorem ok_signed {f : Addr} {fd : FuncData} (F : Fun K "signed" "signed" sSigned f fd) (gS : GI mg "SMALL" 4294967296) : FnOk P w K mg base CX0 1 f fd ["number"] spSigned := by
  refine F.ok scSigned (fun vs H Q E h => ?_) (fun cdv A outer s H vs Q E hr h => ?_)
  · obtain ⟨n, rfl, _⟩ := h
    rfl
  · obtain ⟨n, rfl, k⟩ := h
    refine ⟨_, pss_one (ps_ret (pe_ifExp (pt_cmpR op_ge (pv 0) (pe_op op_fdiv (pe_gi rfl gS) pe_int) (nomark _)) (pe_op op_sub (pv 0) (pe_gi rfl gS)) (pv 0))), ?_⟩
    refine s_ret (v := .int (sg n)) (ev_if (et_test (ev_op (ev_var rfl) (ev_op ev_c ev_c (rv_I ⟨by decide, by decide⟩)) rv_I0)) (fun c => ?_) (fun c => ?_)) k
    · have c' : (4294967296 / 2 : Int) ≤ n := of_decide_eq_true c
      exact ev_is (ev_op (ev_var rfl) ev_c rv_I0) (congrArg V.int (by unfold sg; rw [if_pos (by omega)]))
    · have c' : ¬ (4294967296 / 2 : Int) ≤ n := of_decide_eq_false c
      exact ev_is (ev_var rfl) (congrArg V.int (by unfold sg; rw [if_neg (by omega)]))
/-! ### signed_list -/
abbrev sSignedList : Stmt := top 20
theorem scSignedList : FnScope ["numbers", "number"] ["numbers"] (defScope sSignedList) := ⟨rfl, rfl, rfl, by decide +kernel, rfl, by decide +kernel, by decide +kernel⟩
def spSignedList (K : PySem.W.Frag) : Sp := fun vs H Q _ => ∃ (a : Addr) (ns : List Int), vs = [.ref a] ∧ SqL K H a (ns.map V.int) ∧ ns.length ≤ 40000 ∧ RetL ((ns.map sg).map V.int) H Q
theorem ok_signed_list {f fS : Addr} {fd fdS : FuncData} (F : Fun K "signed_list" "signed_list" sSignedList f fd) (FS : Fun K "signed" "signed" sSigned fS fdS) (bS : Binds K fdS ["number"] []) (mS : mg "signed" = some (.ref fS)) (gS : GI mg "SMALL" 4294967296) : FnOk P w K mg base CX0 2 f fd ["numbers"] (spSignedList K) := by
  have GS : FnOk P w K mg base CX0 1 fS fdS ["number"] spSigned := ok_signed FS gS
  refine F.ok scSignedList (fun vs H Q E h => ?_) (fun cdv A outer s H vs Q E hr h => ?_)
  · obtain ⟨a, ns, rfl, _⟩ := h
    rfl
  · obtain ⟨a, ns, rfl, hS, hl, k⟩ := h
    refine ⟨_, pss_one (ps_ret (pe_lc (own := [("number", 1)]) (g := gName 1) (tt := tYes) rfl scSignedList.nd (pi_list (pv 0)) (blkOk_by (own := [("number", 1)]) (N := ["numbers", "number"]) (sc := defScope sSignedList) (by decide +kernel))
      (fun _ _ _ _ _ => pg_name (i := 1) scSignedList.nd rfl (Or.inl rfl)) (fun _ _ _ _ _ => pts_nil) (fun _ _ _ _ _ => pe_call GS hr (by rfl) mS FS.kp bS .nil pass0 (pa_cons (pv 1) pa_nil)))), ?_⟩
    exact s_retL (el_ints sg (ev_var rfl) hS hl (fun _ => rfl) fun n H1 e _ => ev_callA (ea_cons (ev_var rfl) ea_nil) fun H2 e2 Q q => ⟨n, rfl, q⟩) k
/-! ### great_told -/
abbrev sGreatTold : Stmt := top 4
theorem scGreatTold : FnScope ["numbers", "number"] ["numbers"] (defScope sGreatTold) := ⟨rfl, rfl, rfl, by decide +kernel, rfl, by decide +kernel, by decide +kernel⟩
def spGreatTold (K : PySem.W.Frag) : Sp := fun vs H Q _ => ∃ (a : Addr) (ns : List Int), vs = [.ref a] ∧ SqL K H a (ns.map V.int) ∧ ns.length ≤ 40000 ∧ RetL ((ns.map fun z => z % 18446744073709551616).map V.int) H Q
theorem ok_great_told {f : Addr} {fd : FuncData} (F : Fun K "great_told" "great_told" sGreatTold f fd) (gG : GI mg "GREAT" 18446744073709551616) : FnOk P w K mg base CX0 1 f fd ["numbers"] (spGreatTold K) := by
  refine F.ok scGreatTold (fun vs H Q E h => ?_) (fun cdv A outer s H vs Q E hr h => ?_)
  · obtain ⟨a, ns, rfl, _⟩ := h
    rfl
  · obtain ⟨a, ns, rfl, hS, hl, k⟩ := h
    refine ⟨_, pss_one (ps_ret (pe_lc (own := [("number", 1)]) (g := gName 1) (tt := tYes) rfl scGreatTold.nd (pi_list (pv 0)) (blkOk_by (own := [("number", 1)]) (N := ["numbers", "number"]) (sc := defScope sGreatTold) (by decide +kernel))
      (fun _ _ _ _ _ => pg_name (i := 1) scGreatTold.nd rfl (Or.inl rfl)) (fun _ _ _ _ _ => pts_nil) (fun _ _ _ _ _ => pe_op op_mod (pv 1) (pe_gi rfl gG)))), ?_⟩
    exact s_retL (el_ints (fun z => z % 18446744073709551616) (ev_var rfl) hS hl (fun _ => rfl) fun n H1 e _ => ev_op (ev_var rfl) ev_c (rv_I (by decide))) k
/-! ### are_magnitudes -/
abbrev sAreMag : Stmt := top 19
theorem scAreMag : FnScope ["numbers", "number"] ["numbers"] (defScope sAreMag) := ⟨rfl, rfl, rfl, by decide +kernel, rfl, by decide +kernel, by decide +kernel⟩
def spAreMag (K : PySem.W.Frag) : Sp := fun vs H Q _ => ∃ (a : Addr) (ns : List Int), vs = [.ref a] ∧ SqL K H a (ns.map V.int) ∧ ns.length ≤ 40000 ∧ RetV (.bl (Sh70.areValidMagnitudes ns)) H Q
theorem ok_are_mag {f : Addr} {fd : FuncData} (F : Fun K "are_magnitudes" "are_magnitudes" sAreMag f fd) (gM : GI mg "MOST_MAGNITUDE" 99999) (za : mg "all" = none) (zb : mg "abs" = none) : FnOk P w K mg base CX0 1 f fd ["numbers"] (spAreMag K) := by
  refine F.ok scAreMag (fun vs H Q E h => ?_) (fun cdv A outer s H vs Q E hr h => ?_)
  · obtain ⟨a, ns, rfl, _⟩ := h
    rfl
  · obtain ⟨a, ns, rfl, hS, hl, k⟩ := h
    refine ⟨_, pss_one (ps_ret (pe_callB (cr_all rfl) (by rfl) za boot_all (pa_cons (pe_lc (own := [("number", 1)]) (g := gName 1) (tt := tYes) rfl scAreMag.nd (pi_list (pv 0)) (blkOk_by (own := [("number", 1)]) (N := ["numbers", "number"]) (sc := defScope sAreMag) (by decide +kernel))
      (fun _ _ _ _ _ => pg_name (i := 1) scAreMag.nd rfl (Or.inl rfl)) (fun _ _ _ _ _ => pts_nil) (fun _ _ _ _ _ => pe_cmpR op_le (pe_callB call_abs (by rfl) zb boot_abs (pa_cons (pv 1) pa_nil)) (pe_gi rfl gM) (nomark _))) pa_nil))), ?_⟩
    have e : (ns.map magOk).all id = Sh70.areValidMagnitudes ns := by
      rw [List.all_map]
      exact mags_are ns
    rw [← e] at k
    refine s_ret (ev_allN ?_) k
    have z := el_vals (K := K) (tl := tVar 0) (vs := [1]) (j := 1) (σ := start ["numbers", "number"] [V.ref a]) (fun n => V.bl (magOk n)) (ev_var rfl) hS hl (fun _ => rfl) fun n H1 e _ => ev_op (ev_abs (ev_var (i := 1) rfl)) (ev_c (v := .int 99999)) (rv_I0 (g := fun i j => .bl (decide (i ≤ j))))
    rw [List.map_map]
    exact z
/-! ### phase_of, folded_series -/
abbrev sPhaseOf : Stmt := top 7
theorem scPhaseOf : FnScope ["time", "period"] ["time", "period"] (defScope sPhaseOf) := ⟨rfl, rfl, rfl, by decide +kernel, rfl, by decide +kernel, by decide +kernel⟩
def spPhaseOf : Sp := fun vs H Q _ => ∃ t p : Int, vs = [.int t, .int p] ∧ 0 ≤ t ∧ 0 < p ∧ p < 4294967296 ∧ RetV (.int ((Sh70.phase p.toNat t.toNat : Nat) : Int)) H Q
theorem phase_int {p t : Int} (hp : 0 < p) (ht : 0 ≤ t) : ((Sh70.phase p.toNat t.toNat : Nat) : Int) = (65536 * (t % p)) / p := by
  obtain ⟨k, rfl⟩ := Int.eq_ofNat_of_zero_le (show 0 ≤ p by omega)
  obtain ⟨m, rfl⟩ := Int.eq_ofNat_of_zero_le ht
  show ((65536 * (m % k) / k : Nat) : Int) = _
  rw [Int.natCast_ediv, Int.natCast_mul, Int.natCast_emod]
  rfl
theorem ok_phase_of {f : Addr} {fd : FuncData} (F : Fun K "phase_of" "phase_of" sPhaseOf f fd) (gT : GI mg "TURN" 65536) : FnOk P w K mg base CX0 1 f fd ["time", "period"] spPhaseOf := by
  refine F.ok scPhaseOf (fun vs H Q E h => ?_) (fun cdv A outer s H vs Q E hr h => ?_)
  · obtain ⟨t, p, rfl, _⟩ := h
    rfl
  · obtain ⟨t, p, rfl, ht, hp, hp2, k⟩ := h
    refine ⟨_, pss_one (ps_ret (pe_op op_fdivW (pe_op op_mul (pe_gi rfl gT) (pe_op op_mod (pv 0) (pv 1))) (pv 1))), ?_⟩
    rw [phase_int hp ht] at k
    exact s_ret (ev_op (ev_op ev_c (ev_op (ev_var rfl) (ev_var rfl) (rv_I hp)) (rv_I (.inl ⟨by decide, by decide⟩))) (ev_var rfl) (rv_I (wide_div (b := 33) hp (by omega) (by decide) (by decide)))) k
abbrev sFolded : Stmt := top 8
theorem scFolded : FnScope ["period", "times", "magnitudes", "phases", "places", "time", "place"] ["period", "times", "magnitudes"] (defScope sFolded) := ⟨rfl, rfl, rfl, by decide +kernel, rfl, by decide +kernel, by decide +kernel⟩
/-- the name of its lambda's code -/
def lamQ : Str := (("folded_series" : Str) ++ ".<locals>.") ++ "<lambda>"
/-- the handed-on series: all stays but the table -/
def RetSer (T : Addr) (s : List (Nat × Int)) (H : Hp) (Q : VK) : Prop := ∀ (p : Addr) (qs : List Addr) (H2 : Hp), LamX.ExtN H H2 → LamX.TabS H2 T lamQ → SerAt H2 p qs s → Q (.ref p) H2
def spFolded (K : PySem.W.Frag) (T : Addr) : Sp := fun vs H Q _ => ∃ (per : Int) (a b : Addr) (ts ms : List Int), vs = [.int per, .ref a, .ref b] ∧ 0 < per ∧ per < 4294967296 ∧ SqL K H a (ts.map V.int) ∧ SqL K H b (ms.map V.int) ∧ (∀ t ∈ ts, 0 ≤ t) ∧ ts.length = ms.length ∧ ts.length ≤ 40000 ∧ LamX.TabS H T lamQ ∧
  RetSer T (Sh70.fold per.toNat (Sh70Neutral.toNats ts) ms) H Q
theorem ok_folded {f fP c T : Addr} {fd fdP : FuncData} (F : FunC K "folded_series" "folded_series" sFolded f fd c) (TB : LamX.TabB base mg c T) (FP : Fun K "phase_of" "phase_of" sPhaseOf fP fdP) (bP : Binds K fdP ["time", "period"] []) (mP : mg "phase_of" = some (.ref fP)) (gT : GI mg "TURN" 65536)
    (zs : mg "sorted" = none) (zr : mg "range" = none) (zl : mg "len" = none) : FnOk P w K mg base CX0 2 f fd ["period", "times", "magnitudes"] (spFolded K T) := by
  have GP : FnOk P w K mg base CX0 1 fP fdP ["time", "period"] spPhaseOf := ok_phase_of FP gT
  refine F.ok scFolded (fun vs H Q E h => ?_) (fun A outer s H vs Q E hr h => ?_)
  · obtain ⟨per, a, b, ts, ms, rfl, _⟩ := h
    rfl
  · obtain ⟨per, a, b, ts, ms, rfl, hp, hp2, hA, hB, ht0, hl, h4, hT, k⟩ := h
    refine ⟨_, pss_cons (ps_set (i := 3) scFolded.nd rfl (Or.inr rfl) (pe_lc (own := [("time", 5)]) (g := gName 5) (tt := tYes) rfl scFolded.nd (pi_list (pv 1)) (blkOk_by (own := [("time", 5)]) (N := ["period", "times", "magnitudes", "phases", "places", "time", "place"]) (sc := defScope sFolded) (by decide +kernel))
        (fun _ _ _ _ _ => pg_name (i := 5) scFolded.nd rfl (Or.inl rfl)) (fun _ _ _ _ _ => pts_nil) (fun _ _ _ _ _ => pe_call GP hr (by rfl) mP FP.kp bP .nil pass0 (pa_cons (pv 5) (pa_cons (pv 0) pa_nil)))))
      (pss_cons (ps_set (i := 4) scFolded.nd rfl (Or.inl rfl) (pe_sortedLam (c := c) (P := T) (i := 3) (q := lamQ) rfl (by rfl) zs (pa_cons (pe_callTy cr_range1 (by rfl) zr boot_range (pa_cons (pe_callB call_len_seq (by rfl) zl PySem.boot_len (pa_cons (pv 1) pa_nil)) pa_nil)) pa_nil) TB rfl rfl
        ⟨⟨_, _, _, rfl⟩, rfl, rfl, rfl, rfl, fun _ _ _ _ _ _ => rfl⟩ hr rfl rfl rfl))
      (pss_one (ps_ret (pe_lc (own := [("place", 6)]) (g := gName 6) (tt := tYes) rfl scFolded.nd (pi_list (pv 4)) (blkOk_by (own := [("place", 6)]) (N := ["period", "times", "magnitudes", "phases", "places", "time", "place"]) (sc := defScope sFolded) (by decide +kernel))
        (fun _ _ _ _ _ => pg_name (i := 6) scFolded.nd rfl (Or.inl rfl)) (fun _ _ _ _ _ => pts_nil) (fun _ _ _ _ _ => pe_tup (pa_cons (pe_ix (r := rIxL K) ix_list (pv 3) (pv 6) (fun _ _ => rfl)) (pa_cons (pe_ix (r := rIxL K) ix_list (pv 2) (pv 6) (fun _ _ => rfl)) pa_nil))))))), ?_⟩
    -- phases
    refine q_asgL (xs := (phI per ts).map V.int) (el_ints (fun t => ((Sh70.phase per.toNat t.toNat : Nat) : Int)) (ev_var rfl) hA h4 (fun _ => rfl) fun n H1 e1 hn => ev_callA (ea_cons (ev_var rfl) (ea_cons (ev_var rfl) ea_nil)) fun H2 e2 Q q => ⟨n, per, rfl, ht0 n hn, hp, hp2, q⟩) fun d H1 nd e1 hd => ?_
    have hA1 := ex_l e1 hA
    refine q_sortLam (K := K) (zs := phI per ts) (pa := d) (ev_is (ev_len (ev_var rfl) hA1) (by rw [List.length_map, phI_len])) (by rw [phI_len]; exact h4) rfl (sq_new hd) (hT.ext e1) fun H2 pl e2 hT2 hpl => ?_
    have hB2 := exN_sq e2 (ex_l e1 hB)
    have hd2 := exN_lst e2 hd
    have hl' : (Sh70Neutral.toNats ts).length = ms.length := by rw [toNats_len]; exact hl
    have hwk := ew_list (K := K) (tl := tVar 4) (σ := (((start ["period", "times", "magnitudes", "phases", "places", "time", "place"] [V.int per, V.ref a, V.ref b]).set 3 (some (V.ref d))).set 4 (some (V.ref pl)))) (ev_var rfl) (sq_new hpl)
    have len1 : ((plcI (phI per ts)).map fun k : Nat => V.int (k : Int)).length = (serO (Sh70.fold per.toNat (Sh70Neutral.toNats ts) ms)).length := by
      rw [List.length_map, plcI_is, plc_len, serO_len, fold_len hl']
    rw [len1] at hwk
    have z := eos_lc (te := tTup (tCons (tOp (rIxL K) (tVar 3) (tVar 6)) (tCons (tOp (rIxL K) (tVar 2) (tVar 6)) tNil))) (g := gName 6) (vs := [6]) hwk (by rw [serO_len, fold_len hl', toNats_len]; omega) fun i y o H3 H4 ho e3 yy Qg q => by
      obtain ⟨rfl, hy⟩ := yy
      unfold serO at ho
      rw [fold_is hl', List.getElem?_map, List.getElem?_map] at ho
      rw [plcI_is, List.getElem?_map] at hy
      cases hk : (plc per.toNat (Sh70Neutral.toNats ts))[i]? with
      | none =>
        rw [hk] at hy
        cases hy
      | some m =>
        rw [hk] at hy ho
        have ey : V.int (m : Int) = y := Option.some.inj hy
        subst ey
        have eo : entO (Sh70.natAt (phs per.toNat (Sh70Neutral.toNats ts)) m, Sh70.intAt ms m) = o := Option.some.inj ho
        subst eo
        have hm := plc_lt (List.mem_of_getElem? hk)
        refine q _ _ rfl (Ex.refl _) (eo_u (eu_tup (ea_cons (ev_op (ev_var rfl) (ev_var rfl) (rv_ixL (sq_new (e3 _ _ hd2)) (atI_nat ?_))) (ea_cons (ev_op (ev_var rfl) (ev_var rfl) (rv_ixL (ex_l e3 hB2) (atI_nat ?_))) ea_nil)) small))
        · rw [phI_is, List.getElem?_map, List.getElem?_map, natAt_get (by unfold phs; rw [List.length_map]; exact hm)]
          rfl
        · rw [List.getElem?_map, intAt_get (by rw [← hl']; exact hm)]
          rfl
    exact z H2 (Ex.refl _) _ fun p qs H3 np e3 hp3 ho3 _ _ => k p qs H3 (((LamX.ExtN.of e1).trans e2).trans (LamX.ExtN.of e3)) (hT2.ext e3) ⟨hp3, ho3⟩
/-- name = folded_series(..) -/
theorem q_callSer {σ : L2.St} {H : Hp} {E : XK} {ta : TA} {tz : TS} {D : Ends} {T a b : Addr} {per : Int} {ts ms : List Int} {j : Nat} (h : EvA ta σ H [.int per, .ref a, .ref b]) (hp : 0 < per) (hp2 : per < 4294967296) (hA : SqL K H a (ts.map V.int)) (hB : SqL K H b (ms.map V.int)) (ht : ∀ t ∈ ts, 0 ≤ t) (hl : ts.length = ms.length) (h4 : ts.length ≤ 40000) (hT : LamX.TabS H T lamQ)
    (k : ∀ p qs H2, LamX.ExtN H H2 → LamX.TabS H2 T lamQ → SerAt H2 p qs (Sh70.fold per.toNat (Sh70Neutral.toNats ts) ms) → tz D (σ.set j (some (.ref p))) H2) : tSeq (tAsg (tCall (spFolded K T) [] E ta) (gName j)) tz D σ H :=
  h H (Ex.refl H) _ fun H1 e1 => ⟨per, a, b, ts, ms, rfl, hp, hp2, ex_l e1 hA, ex_l e1 hB, ht, hl, h4, hT.ext e1, fun p qs H2 e2 hT2 hs => k p qs H2 ((LamX.ExtN.of e1).trans e2) hT2 hs⟩
/-- [e for pair in series] -/
theorem el_ser {σ : L2.St} {H : Hp} {tl te : TE} {vs : List Nat} {j : Nat} {p : Addr} {qs : List Addr} {s : List (Nat × Int)} (g : Nat × Int → V) (h : Ev tl σ H (.ref p)) (hs : SerAt H p qs s) (hz : s.length ≤ 40000) (hw : ∀ x, wipe ((wipe σ vs).set j (some x)) vs = wipe σ vs)
    (he : ∀ q e H1, Ex H H1 → H1 q = some (.tup [.int (e.1 : Int), .int e.2]) → e ∈ s → Ev te ((wipe σ vs).set j (some (.ref q))) H1 (g e)) : EvL (tLc (iList K tl) (gName j) tYes te vs) σ H (s.map g) := by
  have hwk := ew_list (K := K) h (sq_new hs.1)
  rw [hs.len] at hwk
  have k := el_lcV (te := te) (g := gName j) (vs := vs) (fun i => g (s.getD i (0, 0))) hwk (by omega) fun i y H1 H2 hi e yy Qg q => by
    obtain ⟨rfl, hy⟩ := yy
    obtain ⟨b, en, rfl, _, hen, hb⟩ := hs.at hy
    refine q _ _ (hw _) (Ex.refl _) ?_
    have e2 : s.getD i (0, 0) = en := by
      rw [List.getD_eq_getElem?_getD, hen]
      rfl
    show Ev te _ _ (g (s.getD i (0, 0)))
    rw [e2]
    exact he b en _ e (e _ _ hb) (List.mem_of_getElem? hen)
  have e : (List.range s.length).map (fun i => g (s.getD i (0, 0))) = s.map g := by
    apply List.ext_getElem?
    intro i
    rw [List.getElem?_map, List.getElem?_map]
    by_cases c : i < s.length
    · rw [List.getElem?_range c, List.getElem?_eq_getElem c]
      show some (g (s.getD i (0, 0))) = some (g s[i])
      rw [List.getD_eq_getElem?_getD, List.getElem?_eq_getElem c]
      rfl
    · rw [List.getElem?_eq_none (by rw [List.length_range]; omega), List.getElem?_eq_none (by omega)]
      rfl
  rw [e] at k
  exact k
/-! ### bins_of -/
abbrev sBinsOf : Stmt := top 9
theorem scBinsOf : FnScope ["series", "bins", "found", "number", "phase", "magnitude"] ["series", "bins"] (defScope sBinsOf) := ⟨rfl, rfl, rfl, by decide +kernel, rfl, by decide +kernel, by decide +kernel⟩
/-- the bins as objects -/
def binsO (bins : Nat) (s : List (Nat × Int)) : List HO := (binsI bins s).map fun l => HO.lst (l.map V.int)
theorem binsO_len (bins : Nat) (s : List (Nat × Int)) : (binsO bins s).length = bins := by
  unfold binsO
  rw [List.length_map, binsI_len]
theorem binsO_get {bins : Nat} {s : List (Nat × Int)} {b : Nat} (h : b < bins) : (binsO bins s)[b]? = some (HO.lst ((binAt bins s b).map V.int)) := by
  unfold binsO
  rw [List.getElem?_map, binsI_get h]
  rfl
theorem binsO_at {bins : Nat} {s : List (Nat × Int)} {b : Nat} {o : HO} (h : (binsO bins s)[b]? = some o) : b < bins ∧ o = HO.lst ((binAt bins s b).map V.int) := by
  have hb : b < bins := by
    have := (List.getElem?_eq_some_iff.mp h).1
    rw [binsO_len] at this
    exact this
  rw [binsO_get hb] at h
  exact ⟨hb, (Option.some.inj h).symm⟩
def spBinsOf : Sp := fun vs H Q _ => ∃ (p : Addr) (qs : List Addr) (s : List (Nat × Int)) (bins : Nat), vs = [.ref p, .int (bins : Int)] ∧ SerAt H p qs s ∧ s.length ≤ 40000 ∧ 0 < bins ∧ bins ≤ 64 ∧ (∀ e ∈ s, e.1 < 65536) ∧ RetOs (binsO bins s) H Q
/-- one bin longer -/
theorem bins_step {bins : Nat} {s : List (Nat × Int)} {i : Nat} {e : Nat × Int} {H : Hp} {bs : List Addr} {b : Addr} (he : s[i]? = some e) (hlt : binNo bins e < bins) (hb : bs[binNo bins e]? = some b) (nd : bs.Nodup) (h : ObjsAt H bs (binsO bins (s.take i))) :
    ObjsAt (upd H b (.lst ((binAt bins (s.take i) (binNo bins e)).map V.int ++ [V.int e.2]))) bs (binsO bins (s.take (i + 1))) := by
  refine ⟨by rw [h.1, binsO_len, binsO_len], fun j q o hq ho => ?_⟩
  obtain ⟨hj, rfl⟩ := binsO_at ho
  rw [binAt_more he]
  by_cases c : binNo bins e = j
  · subst c
    rw [hb] at hq
    cases hq
    rw [upd_same, if_pos rfl, List.map_append]
    rfl
  · have hqb : q ≠ b := fun z => by
      subst z
      have h1 := (List.getElem?_eq_some_iff.mp hb).1
      exact c ((List.getElem?_inj h1 nd).mp (hb.trans hq.symm))
    rw [upd_ne hqb, if_neg c]
    exact h.2 j q _ hq (binsO_get hj)
/-- name = a new list of new objects -/
theorem q_asgOs {σ : L2.St} {H : Hp} {te : TE} {tz : TS} {D : Ends} {i : Nat} {os : List HO} (h : EvOs te σ H os) (k : ∀ (p : Addr) (qs : List Addr) (H1 : Hp), H p = none → Ex H H1 → H1 p = some (.lst (qs.map V.ref)) → ObjsAt H1 qs os → (∀ q ∈ qs, H q = none ∧ q ≠ p) → qs.Nodup → tz D (σ.set i (some (.ref p))) H1) :
    tSeq (tAsg te (gName i)) tz D σ H := h H (Ex.refl H) _ fun p qs H1 hp e h1 h2 h3 h4 => k p qs H1 hp e h1 h2 h3 h4
theorem ok_bins {f : Addr} {fd : FuncData} (F : Fun K "bins_of" "bins_of" sBinsOf f fd) (gT : GI mg "TURN" 65536) (zr : mg "range" = none) : FnOk P w K mg base CX0 1 f fd ["series", "bins"] spBinsOf := by
  refine F.ok scBinsOf (fun vs H Q E h => ?_) (fun cdv A outer s H vs Q E hr h => ?_)
  · obtain ⟨p, qs, s, bins, rfl, _⟩ := h
    rfl
  · obtain ⟨p, qs, s, bins, rfl, hs, hl, hb0, hb, hph, k⟩ := h
    refine ⟨_, pss_cons (ps_setLc (i := 2) (own := [("number", 3)]) (g := gName 3) (tt := tYes) rfl scBinsOf.nd rfl rfl (sw_true rfl rfl rfl (by decide +kernel)) (pi_range1 (by rfl) zr (pa_cons (pv 1) pa_nil)) (blkOk_by (own := [("number", 3)]) (N := ["series", "bins", "found", "number", "phase", "magnitude"]) (sc := defScope sBinsOf) (by decide +kernel))
        (fun _ _ _ _ _ => pg_name (i := 3) scBinsOf.nd rfl (Or.inl rfl)) (fun _ _ _ _ _ => pts_nil) (fun _ _ _ _ _ => pe_lst pa_nil))
      (pss_cons (ps_for PassesOwn.never rfl (pi_list (pv 0)) (pg_tup rfl (pgs_cons (pg_name (i := 4) scBinsOf.nd rfl (Or.inl rfl)) (pgs_cons (pg_name (i := 5) scBinsOf.nd rfl (Or.inl rfl)) pgs_nil)))
        (pss_one (ps_expr (pe_bm PySem.F.plainAttrs_list PySem.F.slot_list_append PySem.F.type_list_append mt_append (pe_ix (r := rIxL K) ix_list (pv 2) (pe_op op_fdivW (pe_op op_mul (pv 4) (pv 1)) (pe_gi rfl gT)) (fun _ _ => rfl)) (pa_cons (pv 5) pa_nil)))))
      (pss_one (ps_ret (pv 2)))), ?_⟩
    have hw := ew_rng1 (σ := start ["series", "bins", "found", "number", "phase", "magnitude"] [V.ref p, V.int (bins : Int)]) (H := H) (ea_cons (ta := tVar 1) (ev_var rfl) ea_nil) (m := (bins : Int)) (by omega)
    rw [show ((bins : Int)).toNat = (binsO bins ([] : List (Nat × Int))).length by rw [binsO_len]; rfl] at hw
    have z := eos_lc (te := tLst tNil) (g := gName 3) (vs := [3]) hw (by rw [binsO_len]; omega) fun i y o H1 H2 ho e yy Qg q => by
      obtain ⟨rfl, rfl⟩ := yy
      obtain ⟨_, rfl⟩ := binsO_at ho
      exact q _ _ rfl (Ex.refl _) (eo_l (el_lst ea_nil small))
    refine q_asgOs z fun d bs H1 nd e1 hd ho hf hnd => ?_
    have hs1 := hs.mono e1
    have hbl : bs.length = bins := by rw [ho.1, binsO_len]
    refine q_forL (K := K) (xs := qs.map V.ref) (ev_var rfl) (sq_new hs1.1) (fun i σ' H' => ∃ y4 y5 : Option V, σ' = [some (.ref p), some (.int (bins : Int)), some (.ref d), none, y4, y5] ∧ Ex H H' ∧ H' d = some (.lst (bs.map V.ref)) ∧ ObjsAt H' bs (binsO bins (s.take i)))
      (fun H2 e2 => ⟨none, none, rfl, e1.trans e2, e2 _ _ hd, by rw [List.take_zero]; exact ho.mono e2⟩) (fun i σ' H' _ hp => ?_) (fun i x σ' H2 hx hp => ?_) (fun σ' H' hp => ?_)
    · obtain ⟨_, _, _, e2, _, _⟩ := hp
      exact sq_new (e2 _ _ hs.1)
    · obtain ⟨y4, y5, rfl, e2, hd2, ho2⟩ := hp
      obtain ⟨q, e, rfl, hq, he, hqe⟩ := hs.at hx
      have h65 := hph e (List.mem_of_getElem? he)
      have hlt := binNo_lt h65 hb0
      have hbn : binNo bins e < bs.length := by rw [hbl]; exact hlt
      have hbb := List.getElem?_eq_getElem hbn
      generalize bs[binNo bins e] = b at hbb
      have hob := ho2.2 _ _ _ hbb (binsO_get hlt)
      refine ⟨q, [V.int (e.1 : Int), V.int e.2], rfl, .inl (.inl (e2 _ _ hqe)), rfl, _, _, rfl, _, _, rfl, rfl, ?_⟩
      have hdiv : ((e.1 : Int) * (bins : Int)) / 65536 = ((binNo bins e : Nat) : Int) := by
        unfold binNo
        rw [Int.natCast_ediv, Int.natCast_mul]
        rfl
      have bl : (binAt bins (s.take i) (binNo bins e)).length ≤ s.length := Nat.le_trans (binAt_len _ _ _) (by rw [List.length_take]; exact Nat.min_le_right _ _)
      refine s_app (K := K) hob (ev_op (ev_var rfl) (ev_op (ev_op (ev_var rfl) (ev_var rfl) (rv_I (.inl ⟨by omega, by omega⟩))) ev_c (rv_I (wide_div (b := 17) (by decide) (by decide) (by decide) (by decide)))) (rv_ixL (v := .ref b) (sq_new hd2) ?_)) (ev_var rfl) (by rw [List.length_map]; omega) fun H3 e3 => ?_
      · rw [hdiv]
        exact atI_nat (by rw [List.getElem?_map, hbb]; rfl)
      · have fb := hf b (List.mem_of_getElem? hbb)
        exact ⟨_, _, rfl, Ex.mut (e2.trans e3) fb.1, by rw [upd_ne (Ne.symm fb.2)]; exact e3 _ _ hd2, bins_step he hlt hbb hnd (ho2.mono e3)⟩
    · obtain ⟨y4, y5, rfl, e2, hd2, ho2⟩ := hp
      rw [hs.len, List.take_length] at ho2
      exact ⟨_, rfl, k d bs H' nd e2 hd2 ho2 hf hnd⟩
/-! ### Totals: how many there are in each bin, and their sums -/
abbrev sToInit : Stmt := inClass (top 10) 0
abbrev sDepth : Stmt := inClass (top 10) 1
theorem scToInit : FnScope ["self", "parts", "values"] ["self", "parts"] (defScope sToInit) := ⟨rfl, rfl, rfl, by decide +kernel, rfl, by decide +kernel, by decide +kernel⟩
theorem scDepth : FnScope ["self", "start", "width", "bins", "step", "inside", "k", "count", "total", "others", "rest"] ["self", "start", "width"] (defScope sDepth) := ⟨rfl, rfl, rfl, by decide +kernel, rfl, by decide +kernel, by decide +kernel⟩
def totF (p q : Addr) : List (Str × V) := [("counts", .ref p), ("sums", .ref q)]
/-- totals of the bins of a series stand at x -/
structure TotAt (C : Addr) (H : Hp) (x dx p q : Addr) (bins : Nat) (s : List (Nat × Int)) : Prop where
  ob : H x = some (.ins C dx (totF p q))
  cn : H p = some (.lst ((cntI bins s).map V.int))
  sm : H q = some (.lst ((totI bins s).map V.int))
theorem TotAt.mono {C : Addr} {H H' : Hp} {x p q dx : Addr} {bins : Nat} {s : List (Nat × Int)} (T : TotAt C H x dx p q bins s) (e : Ex H H') : TotAt C H' x dx p q bins s := ⟨e _ _ T.ob, e _ _ T.cn, e _ _ T.sm⟩
structure TotTxt (K : PySem.W.Frag) (C : Addr) : Prop where
  cl : Cls K C
  nC : NoAttr K C "counts"
  nS : NoAttr K C "sums"
theorem tk_here {k : Str} {v : V} {r : List (Str × V)} : List.lookup k ((k, v) :: r) = some v := by
  have e : (k == k) = true := beq_self_eq_true k
  simp only [List.lookup, e]
theorem tk_past {k g : Str} {v : V} {r : List (Str × V)} (h : (k == g) = false) : List.lookup k ((g, v) :: r) = List.lookup k r := by
  simp only [List.lookup, h]
theorem totF_c (p q : Addr) : (totF p q).lookup ("counts" : Str) = some (.ref p) := tk_here
theorem totF_s (p q : Addr) : (totF p q).lookup ("sums" : Str) = some (.ref q) := (tk_past (by decide +kernel)).trans tk_here
theorem totF_no (p q : Addr) : (totF p q).lookup ("depth" : Str) = none := (tk_past (by decide +kernel)).trans ((tk_past (by decide +kernel)).trans rfl)
theorem cntI_len (bins : Nat) (s : List (Nat × Int)) : (cntI bins s).length = bins := by
  unfold cntI
  rw [List.length_map, List.length_range]
theorem totI_len (bins : Nat) (s : List (Nat × Int)) : (totI bins s).length = bins := by
  unfold totI
  rw [List.length_map, List.length_range]
theorem cntI_get {bins k : Nat} {s : List (Nat × Int)} (h : k < bins) : (cntI bins s)[k]? = some ((binAt bins s k).length : Int) := by
  unfold cntI
  rw [List.getElem?_map, List.getElem?_range h]
  rfl
theorem totI_get {bins k : Nat} {s : List (Nat × Int)} (h : k < bins) : (totI bins s)[k]? = some (binAt bins s k).sum := by
  unfold totI
  rw [List.getElem?_map, List.getElem?_range h]
  rfl
def spToInit (K : PySem.W.Frag) (C : Addr) : Sp := fun vs H Q _ => ∃ (x dx d : Addr) (bs : List Addr) (bins : Nat) (s : List (Nat × Int)), vs = [.ref x, .ref d] ∧ H x = some (.ins C dx []) ∧ H d = some (.lst (bs.map V.ref)) ∧ ObjsAt H bs (binsO bins s) ∧ bins ≤ 64 ∧
  ∀ (H' : Hp) (p q : Addr), TotAt C H' x dx p q bins s → (∀ b o, H b = some o → b ≠ x → H' b = some o) → Q .non H'
/-- [e for values in parts] -/
theorem el_parts {σ : L2.St} {H : Hp} {tl te : TE} {vs : List Nat} {j : Nat} {d : Addr} {bs : List Addr} {bins : Nat} {s : List (Nat × Int)} (g : List Int → Int) (h : Ev tl σ H (.ref d)) (hd : H d = some (.lst (bs.map V.ref))) (ho : ObjsAt H bs (binsO bins s)) (hb : bins ≤ 64) (hw : ∀ x, wipe ((wipe σ vs).set j (some x)) vs = wipe σ vs)
    (he : ∀ b l H1, Ex H H1 → H1 b = some (.lst (l.map V.int)) → Ev te ((wipe σ vs).set j (some (.ref b))) H1 (.int (g l))) : EvL (tLc (iList K tl) (gName j) tYes te vs) σ H (((List.range bins).map fun b => g (binAt bins s b)).map V.int) := by
  have hwk := ew_list (K := K) h (sq_new hd)
  have hl : (bs.map V.ref).length = bins := by rw [List.length_map, ho.1, binsO_len]
  rw [hl] at hwk
  have k := el_lcV (te := te) (g := gName j) (vs := vs) (fun i => V.int (g (binAt bins s i))) hwk (by omega) fun i y H1 H2 hi e yy Qg q => by
    obtain ⟨rfl, hy⟩ := yy
    obtain ⟨b, o, rfl, _, hob, hbo⟩ := ho.at hy
    obtain ⟨_, rfl⟩ := binsO_at hob
    exact q _ _ (hw _) (Ex.refl _) (he b _ _ e (e _ _ hbo))
  rw [List.map_map]
  exact k
theorem ok_toinit {f C : Addr} {fd : FuncData} (F : Fun K "__init__" "Totals.__init__" sToInit f fd) (T : TotTxt K C) (zl : mg "len" = none) (zs : mg "sum" = none) : FnOk P w K mg base CX0 1 f fd ["self", "parts"] (spToInit K C) := by
  refine F.ok scToInit (fun vs H Q E h => ?_) (fun cdv A outer s H vs Q E hr h => ?_)
  · obtain ⟨x, dx, d, bs, bins, s, rfl, _⟩ := h
    rfl
  · obtain ⟨x, dx, d, bs, bins, s, rfl, hx, hd, ho, hb, k⟩ := h
    refine ⟨_, pss_cons (ps_fld (pv 0) (pe_lc (own := [("values", 2)]) (g := gName 2) (tt := tYes) rfl scToInit.nd (pi_list (pv 1)) (blkOk_by (own := [("values", 2)]) (N := ["self", "parts", "values"]) (sc := defScope sToInit) (by decide +kernel))
        (fun _ _ _ _ _ => pg_name (i := 2) scToInit.nd rfl (Or.inl rfl)) (fun _ _ _ _ _ => pts_nil) (fun _ _ _ _ _ => pe_callB (r := rLenS K) call_len_seq (by rfl) zl PySem.boot_len (pa_cons (pv 2) pa_nil))) rfl)
      (pss_one (ps_fld (pv 0) (pe_lc (own := [("values", 2)]) (g := gName 2) (tt := tYes) rfl scToInit.nd (pi_list (pv 1)) (blkOk_by (own := [("values", 2)]) (N := ["self", "parts", "values"]) (sc := defScope sToInit) (by decide +kernel))
        (fun _ _ _ _ _ => pg_name (i := 2) scToInit.nd rfl (Or.inl rfl)) (fun _ _ _ _ _ => pts_nil) (fun _ _ _ _ _ => pe_callB (r := rSum K) (cr_sum rfl) (by rfl) zs boot_sum (pa_cons (pv 2) pa_nil))) rfl)), ?_⟩
    refine s_fldL (K := K) (D := { nx := _, rt := Q }) (xs := (cntI bins s).map V.int) (el_parts (fun l => (l.length : Int)) (ev_var rfl) hd ho hb (fun _ => rfl) fun b l H1 e1 hb1 => ev_is (ev_len (ev_var rfl) (sq_new hb1)) (by rw [List.length_map])) rfl hx T.cl T.nC (by show 0 < 1000; decide) fun p H1 np e1 hp => ?_
    have px : p ≠ x := (ne_of_none hx np).symm
    have keep1 : ∀ b o, H b = some o → b ≠ x → (upd H1 x (.ins C dx (putF "counts" (.ref p) []))) b = some o := fun b o hb hn => by
      rw [upd_ne hn]
      exact e1 _ _ hb
    have hp1 : (upd H1 x (.ins C dx (putF "counts" (.ref p) []))) p = some (.lst ((cntI bins s).map V.int)) := by
      rw [upd_ne px]
      exact hp
    have hx1 : (upd H1 x (.ins C dx (putF "counts" (.ref p) []))) x = some (.ins C dx (putF "counts" (.ref p) [])) := upd_same
    generalize upd H1 x (.ins C dx (putF "counts" (.ref p) [])) = H2 at keep1 hp1 hx1
    have dx2 : d ≠ x := ne_of hd hx (by intro z; cases z)
    have hd2 := keep1 _ _ hd dx2
    have ho2 : ObjsAt H2 bs (binsO bins s) := ⟨ho.1, fun i q o a b => keep1 _ _ (ho.2 i q o a b) (by
      obtain ⟨_, rfl⟩ := binsO_at b
      exact ne_of (ho.2 i q _ a b) hx (by intro z; cases z))⟩
    refine s_fldL (K := K) (xs := (totI bins s).map V.int) (el_parts (fun l => l.sum) (ev_var rfl) hd2 ho2 hb (fun _ => rfl) fun b l H3 e3 hb3 => ev_sum (ev_var rfl) (sq_new hb3)) rfl hx1 T.cl T.nS (by show 1 < 1000; decide) fun q H3 nq e3 hq => ?_
    have qx : q ≠ x := (ne_of_none hx1 nq).symm
    have eF : putF "sums" (.ref q) (putF "counts" (.ref p) []) = totF p q := (if_neg (by decide +kernel)).trans rfl
    rw [eF]
    exact k _ p q ⟨upd_same, by rw [upd_ne px]; exact e3 _ _ hp1, by rw [upd_ne qx]; exact hq⟩ fun b o hb hn => by
      rw [upd_ne hn]
      exact e3 _ _ (keep1 _ _ hb hn)
/-! ### Totals.depth, best_of -/
def spDepth (C : Addr) : Sp := fun vs H Q _ => ∃ (x dx p q : Addr) (bins start w : Nat) (s : List (Nat × Int)), vs = [.ref x, .int (start : Int), .int (w : Int)] ∧ TotAt C H x dx p q bins s ∧ start < bins ∧ bins ≤ 64 ∧ w ≤ 64 ∧ s.length ≤ 1024 ∧ (∀ e ∈ s, e.1 < 65536) ∧ RetV (.int (Sh70.boxDepth bins start w s)) H Q
/-- the places inside a box -/
def insI (bins start w : Nat) : List Int := (List.range (min w bins)).map fun j => (((start + j) % bins : Nat) : Int)
theorem ins_mem {bins start w : Nat} (hs : start < bins) {n : Int} (h : n ∈ insI bins start w) : ∃ k : Nat, n = (k : Int) ∧ k < bins := by
  unfold insI at h
  obtain ⟨j, _, rfl⟩ := List.mem_map.mp h
  exact ⟨_, rfl, Nat.mod_lt _ (by omega)⟩
theorem ins_sum {bins start w : Nat} (hs : start < bins) (f : Nat → Int) (g : Int → Int) (h : ∀ k, k < bins → g (k : Int) = f k) : ((insI bins start w).map g).sum = rsum (min w bins) fun j => f ((start + j) % bins) := by
  unfold insI rsum
  rw [List.map_map]
  congr 1
  apply List.map_congr_left
  intro j _
  exact h _ (Nat.mod_lt _ (by omega))
def rMin2 : List V → Hp → VK → Prop := fun xs H Q => ∃ i j : Int, xs = [.int i, .int j] ∧ Q (.int (if j < i then j else i)) H
theorem ev_min2 {σ : L2.St} {H : Hp} {ta tb : TE} {i j : Int} (ha : Ev ta σ H (.int i)) (hb : Ev tb σ H (.int j)) : Ev (tCB rMin2 (tCons ta (tCons tb tNil))) σ H (.int (if j < i then j else i)) := fun H1 e Q q =>
  ha H1 e _ fun H2 e2 => hb H2 (e.trans e2) _ fun H3 e3 => ⟨i, j, rfl, q H3 (e2.trans e3)⟩
theorem ok_depth {f C : Addr} {fd : FuncData} (F : Fun K "depth" "Totals.depth" sDepth f fd) (T : TotTxt K C) (zl : mg "len" = none) (zs : mg "sum" = none) (zr : mg "range" = none) (zm : mg "min" = none) : FnOk P w K mg base CX0 1 f fd ["self", "start", "width"] (spDepth C) := by
  refine F.ok scDepth (fun vs H Q E h => ?_) (fun cdv A outer s H vs Q E hr h => ?_)
  · obtain ⟨x, dx, p, q, bins, start, w, s, rfl, _⟩ := h
    rfl
  · obtain ⟨x, dx, p, q, bins, st, w, s, rfl, hT, hst, hb, hw, hl, hph, k⟩ := h
    refine ⟨_, pss_cons (ps_set (i := 3) scDepth.nd rfl (Or.inr rfl) (pe_callB call_len_seq (by rfl) zl PySem.boot_len (pa_cons (pe_fld (pv 0) rfl) pa_nil)))
      (pss_cons (ps_setLc (i := 5) (own := [("step", 4)]) (g := gName 4) (tt := tYes) rfl scDepth.nd rfl rfl (sw_true rfl rfl rfl (by decide +kernel)) (pi_range1 (by rfl) zr (pa_cons (pe_callB (r := rMin2) (call_min2 rfl) (by rfl) zm boot_min (pa_cons (pv 2) (pa_cons (pv 3) pa_nil))) pa_nil)) (blkOk_by (own := [("step", 4)]) (N := ["self", "start", "width", "bins", "step", "inside", "k", "count", "total", "others", "rest"]) (sc := defScope sDepth) (by decide +kernel))
        (fun _ _ _ _ _ => pg_name (i := 4) scDepth.nd rfl (Or.inl rfl)) (fun _ _ _ _ _ => pts_nil) (fun _ _ _ _ _ => pe_op op_mod (pe_op op_add (pv 1) (pv 4)) (pv 3)))
      (pss_cons (ps_par (i := 7) (j := 8) rfl scDepth.nd rfl rfl (by decide) rfl rfl (pa_cons
        (pe_callB (r := rSum K) (cr_sum rfl) (by rfl) zs boot_sum (pa_cons (pe_lc (own := [("k", 6)]) (g := gName 6) (tt := tYes) rfl scDepth.nd (pi_list (pv 5)) (blkOk_by (own := [("k", 6)]) (N := ["self", "start", "width", "bins", "step", "inside", "k", "count", "total", "others", "rest"]) (sc := defScope sDepth) (by decide +kernel))
          (fun _ _ _ _ _ => pg_name (i := 6) scDepth.nd rfl (Or.inl rfl)) (fun _ _ _ _ _ => pts_nil) (fun _ _ _ _ _ => pe_ix (r := rIxL K) (ta := tFld K (tVar 0) "counts") ix_list (pe_fld (pv 0) rfl) (pv 6) (fun _ _ => rfl))) pa_nil))
        (pa_cons (pe_callB (r := rSum K) (cr_sum rfl) (by rfl) zs boot_sum (pa_cons (pe_lc (own := [("k", 6)]) (g := gName 6) (tt := tYes) rfl scDepth.nd (pi_list (pv 5)) (blkOk_by (own := [("k", 6)]) (N := ["self", "start", "width", "bins", "step", "inside", "k", "count", "total", "others", "rest"]) (sc := defScope sDepth) (by decide +kernel))
          (fun _ _ _ _ _ => pg_name (i := 6) scDepth.nd rfl (Or.inl rfl)) (fun _ _ _ _ _ => pts_nil) (fun _ _ _ _ _ => pe_ix (r := rIxL K) (ta := tFld K (tVar 0) "sums") ix_list (pe_fld (pv 0) rfl) (pv 6) (fun _ _ => rfl))) pa_nil)) pa_nil)) rfl)
      (pss_cons (ps_par (i := 9) (j := 10) rfl scDepth.nd rfl rfl (by decide) rfl rfl (pa_cons (pe_op op_sub (pe_callB (r := rSum K) (cr_sum rfl) (by rfl) zs boot_sum (pa_cons (pe_fld (pv 0) rfl) pa_nil)) (pv 7)) (pa_cons (pe_op op_sub (pe_callB (r := rSum K) (cr_sum rfl) (by rfl) zs boot_sum (pa_cons (pe_fld (pv 0) rfl) pa_nil)) (pv 8)) pa_nil)) rfl)
      (pss_one (ps_ret (pe_ifExp (PW.pt (pw_and (pt_cmpR op_gt (pv 7) pe_int (nomark _)) (pw_and1 (pt_cmpR op_gt (pv 9) pe_int (nomark _))))) (pe_op op_sub (pe_op op_mul (pv 8) (pv 9)) (pe_op op_mul (pv 10) (pv 7))) pe_int)))))), ?_⟩
    refine q_asg (v := .int (bins : Int)) (ev_is (ev_len (ev_fld (ev_var rfl) hT.ob T.cl T.nC (totF_c p q)) (sq_new hT.cn)) (by rw [List.length_map, cntI_len])) fun H1 e1 => ?_
    have hT1 := hT.mono e1
    -- inside
    have hw1 := ew_rng1 (ta := tCons (tCB rMin2 (tCons (tVar 2) (tCons (tVar 3) tNil))) tNil) (σ := (start ["self", "start", "width", "bins", "step", "inside", "k", "count", "total", "others", "rest"] [V.ref x, V.int (st : Int), V.int (w : Int)]).set 3 (some (V.int (bins : Int)))) (H := H1) (m := ((min w bins : Nat) : Int)) (ea_cons (ev_is (ev_min2 (ev_var rfl) (ev_var rfl)) (congrArg V.int (by split <;> omega))) ea_nil) (by omega)
    rw [show (((min w bins : Nat) : Int)).toNat = min w bins from rfl] at hw1
    have zi := el_lcV (te := tOp (rI (fun _ j => 0 < j) fun i j => .int (i % j)) (tOp (rI0 fun i j => .int (i + j)) (tVar 1) (tVar 4)) (tVar 3)) (g := gName 4) (vs := [4]) (fun j => V.int (((st + j) % bins : Nat) : Int)) hw1 (by omega) fun i y H2 H3 hi e yy Qg q => by
      obtain ⟨rfl, rfl⟩ := yy
      exact q _ _ rfl (Ex.refl _) (ev_is (ev_op (ev_op (ev_var rfl) (ev_var rfl) rv_I0) (ev_var rfl) (rv_I (by omega))) (congrArg V.int (by rw [Int.natCast_emod, Int.natCast_add])))
    have ei : (List.range (min w bins)).map (fun j => V.int (((st + j) % bins : Nat) : Int)) = (insI bins st w).map V.int := by
      unfold insI
      rw [List.map_map]
      rfl
    rw [ei] at zi
    refine q_asgL zi fun d H2 _ e2 hd => ?_
    have hT2 := hT1.mono e2
    have il : (insI bins st w).length ≤ 64 := by
      unfold insI
      rw [List.length_map, List.length_range]
      omega
    -- count, total
    refine q_par (x := .int (rsum (min w bins) fun j => ((binAt bins s ((st + j) % bins)).length : Int))) (y := .int (rsum (min w bins) fun j => (binAt bins s ((st + j) % bins)).sum)) (ea_cons ?_ (ea_cons ?_ ea_nil)) fun H3 e3 => ?_
    · rw [← ins_sum hst (fun k => ((binAt bins s k).length : Int)) (fun n => (cntI bins s).getD n.toNat 0) (fun k hk => by rw [show ((k : Int)).toNat = k from rfl]; exact getD_some (cntI_get hk))]
      refine ev_sumN (el_ints (K := K) (fun n => (cntI bins s).getD n.toNat 0) (ev_var rfl) (sq_new hd) (by omega) (fun _ => rfl) fun n H3 e3 hn => ?_)
      obtain ⟨k, rfl, hk⟩ := ins_mem hst hn
      refine ev_op (ev_fld (ev_var rfl) (hT2.mono e3).ob T.cl T.nC (totF_c p q)) (ev_var rfl) (rv_ixL (sq_new (hT2.mono e3).cn) (atI_nat ?_))
      rw [List.getElem?_map, cntI_get hk, show ((k : Int)).toNat = k from rfl, List.getD_eq_getElem?_getD, cntI_get hk]
      rfl
    · rw [← ins_sum hst (fun k => (binAt bins s k).sum) (fun n => (totI bins s).getD n.toNat 0) (fun k hk => by rw [show ((k : Int)).toNat = k from rfl]; exact getD_some (totI_get hk))]
      refine ev_sumN (el_ints (K := K) (fun n => (totI bins s).getD n.toNat 0) (ev_var rfl) (sq_new hd) (by omega) (fun _ => rfl) fun n H3 e3 hn => ?_)
      obtain ⟨k, rfl, hk⟩ := ins_mem hst hn
      refine ev_op (ev_fld (ev_var rfl) (hT2.mono e3).ob T.cl T.nS (totF_s p q)) (ev_var rfl) (rv_ixL (sq_new (hT2.mono e3).sm) (atI_nat ?_))
      rw [List.getElem?_map, totI_get hk, show ((k : Int)).toNat = k from rfl, List.getD_eq_getElem?_getD, totI_get hk]
      rfl
    have hT3 := hT2.mono e3
    have bb : ∀ k, 0 ≤ ((binAt bins s k).length : Int) ∧ ((binAt bins s k).length : Int) ≤ 1024 := fun k => by
      have := binAt_len bins s k
      omega
    have c1 := range_sum_bound (n := min w bins) (f := fun j => ((binAt bins s ((st + j) % bins)).length : Int)) (b := 1024) fun i _ => bb _
    have c2 := range_sum_bound (n := bins) (f := fun j => ((binAt bins s j).length : Int)) (b := 1024) fun i _ => bb _
    have c1' : 0 ≤ (rsum (min w bins) fun j => ((binAt bins s ((st + j) % bins)).length : Int)) ∧ (rsum (min w bins) fun j => ((binAt bins s ((st + j) % bins)).length : Int)) ≤ 1024 * ((min w bins : Nat) : Int) := c1
    have c2' : 0 ≤ (cntI bins s).sum ∧ (cntI bins s).sum ≤ 1024 * (bins : Int) := c2
    have kd : Sh70.boxDepth bins st w s = depthI bins st w s := (depth_is hst hph).symm
    rw [kd] at k
    unfold depthI at k
    dsimp only at k
    clear c1 c2
    generalize (rsum (min w bins) fun j => ((binAt bins s ((st + j) % bins)).length : Int)) = count at *
    generalize (rsum (min w bins) fun j => (binAt bins s ((st + j) % bins)).sum) = total at *
    -- others, rest
    refine q_par (x := .int ((cntI bins s).sum - count)) (y := .int ((totI bins s).sum - total)) (ea_cons (ev_op (ev_sum (ev_fld (ev_var rfl) hT3.ob T.cl T.nC (totF_c p q)) (sq_new hT3.cn)) (ev_var rfl) rv_I0) (ea_cons (ev_op (ev_sum (ev_fld (ev_var rfl) hT3.ob T.cl T.nS (totF_s p q)) (sq_new hT3.sm)) (ev_var rfl) rv_I0) ea_nil)) fun H4 e4 => ?_
    generalize (totI bins s).sum - total = rest at *
    generalize hot : (cntI bins s).sum - count = others at *
    have b1 : ((min w bins : Nat) : Int) ≤ 64 := by omega
    refine s_ret (v := .int (if 0 < count ∧ 0 < others then total * others - rest * count else 0)) (ev_if (et_and (a := decide (0 < count)) (b := decide (0 < others)) (et_test (ev_op (ev_var rfl) ev_c rv_I0)) fun _ => et_test (ev_op (ev_var rfl) ev_c rv_I0)) (fun c => ?_) fun c => ?_) (retV_mono k (((e1.trans e2).trans e3).trans e4))
    · rw [Bool.and_eq_true] at c
      rw [if_pos ⟨of_decide_eq_true c.1, of_decide_eq_true c.2⟩]
      exact ev_op (ev_op (ev_var rfl) (ev_var rfl) (rv_I (.inr ⟨by omega, by omega⟩))) (ev_op (ev_var rfl) (ev_var rfl) (rv_I (.inr ⟨by omega, by omega⟩))) rv_I0
    · have c2 : ¬ (0 < count ∧ 0 < others) := fun z => by
        rw [decide_eq_true z.1, decide_eq_true z.2] at c
        cases c
      rw [if_neg c2]
      exact ev_c
abbrev sBestOf : Stmt := top 11
theorem scBestOf : FnScope ["totals", "most", "found", "width", "start", "depth"] ["totals", "most"] (defScope sBestOf) := ⟨rfl, rfl, rfl, by decide +kernel, rfl, by decide +kernel, by decide +kernel⟩
def spBestOf (C : Addr) : Sp := fun vs H Q _ => ∃ (x dx p q : Addr) (bins most : Nat) (s : List (Nat × Int)), vs = [.ref x, .int (most : Int)] ∧ TotAt C H x dx p q bins s ∧ bins ≤ 64 ∧ most ≤ 64 ∧ s.length ≤ 1024 ∧ (∀ e ∈ s, e.1 < 65536) ∧ RetL ((boxI (Sh70.bestBox bins most s)).map V.int) H Q
theorem ok_best_of {f fD C : Addr} {fd fdD : FuncData} (F : Fun K "best_of" "best_of" sBestOf f fd) (T : TotTxt K C) (FD : Fun K "depth" "Totals.depth" sDepth fD fdD) (bD : Binds K fdD ["self", "start", "width"] []) (mD : Meth K C "depth" fD) (zl : mg "len" = none) (zs : mg "sum" = none) (zr : mg "range" = none) (zm : mg "min" = none) :
    FnOk P w K mg base CX0 2 f fd ["totals", "most"] (spBestOf C) := by
  have GD : FnOk P w K mg base CX0 1 fD fdD ["self", "start", "width"] (spDepth C) := ok_depth FD T zl zs zr zm
  refine F.ok scBestOf (fun vs H Q E h => ?_) (fun cdv A outer s H vs Q E hr h => ?_)
  · obtain ⟨x, dx, p, q, bins, most, s, rfl, _⟩ := h
    rfl
  · obtain ⟨x, dx, p, q, bins, most, s, rfl, hT, hb, hm, hl, hph, k⟩ := h
    refine ⟨_, pss_cons (ps_set (i := 2) scBestOf.nd rfl (Or.inl rfl) (pe_lst (pa_cons pe_int (pa_cons pe_int (pa_cons pe_int pa_nil)))))
      (pss_cons (ps_for PassesOwn.never rfl (pi_range2 (by rfl) zr (pa_cons pe_int (pa_cons (pe_op op_add (pv 1) pe_int) pa_nil))) (pg_name (i := 3) scBestOf.nd rfl (Or.inl rfl))
        (pss_one (ps_for PassesOwn.never rfl (pi_range1 (by rfl) zr (pa_cons (pe_callB call_len_seq (by rfl) zl PySem.boot_len (pa_cons (pe_fld (pv 0) rfl) pa_nil)) pa_nil)) (pg_name (i := 4) scBestOf.nd rfl (Or.inl rfl))
          (pss_cons (ps_set (i := 5) scBestOf.nd rfl (Or.inl rfl) (pe_meth (pv 0) T.cl mD GD hr bD .nil pass0 (pa_cons (pv 4) (pa_cons (pv 3) pa_nil))))
          (pss_one (ps_if (pt_cmpR op_gt (pv 5) (pe_ix ix_list (pv 2) pe_int (fun _ _ => rfl)) (nomark _)) (pss_one (ps_set (i := 2) scBestOf.nd rfl (Or.inl rfl) (pe_lst (pa_cons (pv 4) (pa_cons (pv 3) (pa_cons (pv 5) pa_nil)))))) pss_nil))))))
      (pss_one (ps_ret (pv 2)))), ?_⟩
    refine q_asgL (xs := (boxI (boxTo bins s 0)).map V.int) (el_lst (ea_cons ev_c (ea_cons ev_c (ea_cons ev_c ea_nil))) small) fun d H1 nd e1 hd => ?_
    refine q_forR2 (lo := 1) (n := (most : Int) + 1) (ea_cons ev_c (ea_cons (ev_op (ev_var rfl) ev_c rv_I0) ea_nil)) (by omega) (fun i σ' H' => ∃ (d : Addr) (y3 y4 y5 : Option V), σ' = [some (.ref x), some (.int (most : Int)), some (.ref d), y3, y4, y5] ∧ Ex H H' ∧ H d = none ∧ H' d = some (.lst ((boxI (boxTo bins s i)).map V.int)))
      (fun H2 e2 => ⟨d, none, none, none, rfl, e1.trans e2, nd, e2 _ _ hd⟩) (fun i σ' H' hi hp => ?_) (fun σ' H' hp => ?_)
    · obtain ⟨d, y3, y4, y5, rfl, e2, nd, hd⟩ := hp
      have e0 : (1 : Int) + (i : Int) = ((i + 1 : Nat) : Int) := by omega
      rw [e0]
      have hT2 := hT.mono e2
      refine s_forR1 (n := (bins : Int)) (ea_cons (ev_is (ev_len (ev_fld (ev_var rfl) hT2.ob T.cl T.nC (totF_c p q)) (sq_new hT2.cn)) (by rw [List.length_map, cntI_len])) ea_nil) (by omega) (fun j σ' H' => ∃ (d : Addr) (y4 y5 : Option V), σ' = [some (.ref x), some (.int (most : Int)), some (.ref d), some (.int ((i + 1 : Nat) : Int)), y4, y5] ∧ Ex H H' ∧ H d = none ∧ H' d = some (.lst ((boxI (boxIn bins s i j)).map V.int)))
        (fun H3 e3 => ⟨d, y4, y5, rfl, e2.trans e3, nd, e3 _ _ hd⟩) (fun j σ' H' hj hp => ?_) (fun σ' H' hp => ?_)
      · obtain ⟨d, y4, y5, rfl, e3, nd, hd⟩ := hp
        have hT3 := hT.mono e3
        refine q_asg (v := .int (Sh70.boxDepth bins j (i + 1) s)) (ev_meth (ev_var rfl) hT3.ob (totF_no p q) (ea_cons (ev_var rfl) (ea_cons (ev_var rfl) ea_nil)) fun H4 e4 Q4 q4 => ⟨x, dx, p, q, bins, j, i + 1, s, rfl, hT3.mono e4, by omega, hb, by omega, hl, hph, q4⟩) fun H4 e4 => ?_
        have hd4 := e4 _ _ hd
        have ix : atI ((boxI (boxIn bins s i j)).map V.int) 2 = some (V.int (boxIn bins s i j).2.2) := rfl
        refine s_when (b := decide ((boxIn bins s i j).2.2 < Sh70.boxDepth bins j (i + 1) s)) (et_test (ev_op (ev_var rfl) (ev_op (ev_var rfl) ev_c (rv_ixL (sq_new hd4) ix)) rv_I0)) (fun c H5 e5 => ?_) (fun c H5 e5 => ?_)
        · have ec : boxIn bins s i (j + 1) = (j, i + 1, Sh70.boxDepth bins j (i + 1) s) := by
            rw [boxIn_more]
            exact if_pos (of_decide_eq_true c)
          refine s_asgL (xs := (boxI (boxIn bins s i (j + 1))).map V.int) (by rw [ec]; exact el_lst (ea_cons (ev_var rfl) (ea_cons (ev_var rfl) (ea_cons (ev_var rfl) ea_nil))) small) fun d' H6 nd' e6 hd' => ⟨d', _, _, rfl, ((e3.trans e4).trans e5).trans e6, fresh_back ((e3.trans e4).trans e5) nd', hd'⟩
        · have ec : boxIn bins s i (j + 1) = boxIn bins s i j := by
            rw [boxIn_more]
            exact if_neg (of_decide_eq_false c)
          exact ⟨d, _, _, rfl, (e3.trans e4).trans e5, nd, by rw [ec]; exact e5 _ _ hd4⟩
      · obtain ⟨d, y4, y5, rfl, e3, nd, hd⟩ := hp
        rw [show ((bins : Int)).toNat = bins from rfl, ← boxTo_more] at hd
        exact ⟨d, _, _, _, rfl, e3, nd, hd⟩
    · obtain ⟨d, y3, y4, y5, rfl, e2, nd, hd⟩ := hp
      rw [show ((most : Int) + 1 - 1).toNat = most by omega, box_all] at hd
      exact ⟨_, rfl, k d H' nd e2 hd⟩
/-! ### are_parts -/
abbrev sParts : Stmt := top 21
theorem scParts : FnScope ["numbers", "number"] ["numbers"] (defScope sParts) := ⟨rfl, rfl, rfl, by decide +kernel, rfl, by decide +kernel, by decide +kernel⟩
def partOk (n : Int) : Bool := decide (1 ≤ n) && decide (n ≤ 64)
def spParts (K : PySem.W.Frag) : Sp := fun vs H Q _ => ∃ (a : Addr) (ns : List Int), vs = [.ref a] ∧ SqL K H a (ns.map V.int) ∧ ns.length ≤ 40000 ∧ RetV (.bl (ns.all partOk)) H Q
theorem ok_parts {f : Addr} {fd : FuncData} (F : Fun K "are_parts" "are_parts" sParts f fd) (gM : GI mg "MOST_PARTS" 64) (za : mg "all" = none) : FnOk P w K mg base CX0 1 f fd ["numbers"] (spParts K) := by
  refine F.ok scParts (fun vs H Q E h => ?_) (fun cdv A outer s H vs Q E hr h => ?_)
  · obtain ⟨a, ns, rfl, _⟩ := h
    rfl
  · obtain ⟨a, ns, rfl, hS, hl, k⟩ := h
    refine ⟨_, pss_one (ps_ret (pe_callB (cr_all rfl) (by rfl) za boot_all (pa_cons (pe_lc (own := [("number", 1)]) (g := gName 1) (tt := tYes) rfl scParts.nd (pi_list (pv 0)) (blkOk_by (own := [("number", 1)]) (N := ["numbers", "number"]) (sc := defScope sParts) (by decide +kernel))
      (fun _ _ _ _ _ => pg_name (i := 1) scParts.nd rfl (Or.inl rfl)) (fun _ _ _ _ _ => pts_nil) (fun _ _ _ _ _ => pe_chain op_le op_le pe_int (pv 1) (pe_gi rfl gM))) pa_nil))), ?_⟩
    have e : (ns.map partOk).all id = ns.all partOk := by
      rw [List.all_map]
      rfl
    rw [← e] at k
    refine s_ret (ev_allN ?_) k
    have z := el_vals (K := K) (tl := tVar 0) (te := tChain (rI0 fun i j => .bl (decide (i ≤ j))) (rI0 fun i j => .bl (decide (i ≤ j))) (tC (.int 1)) (tVar 1) (tC (.int 64))) (vs := [1]) (j := 1) (σ := start ["numbers", "number"] [V.ref a]) (fun n => V.bl (partOk n)) (ev_var rfl) hS hl (fun _ => rfl) fun n H1 e _ => ev_between ev_c (ev_var (i := 1) rfl) ev_c
    rw [List.map_map]
    exact z
/-! ### best_box -/
abbrev sBest : Stmt := top 22
theorem scBest : FnScope ["period", "bins", "max_width", "times", "magnitudes", "values", "totals"] ["period", "bins", "max_width", "times", "magnitudes"] (defScope sBest) := ⟨rfl, rfl, rfl, by decide +kernel, rfl, by decide +kernel, by decide +kernel⟩
theorem boxArgs_iff {per bn mw len : Int} : boxArgs per bn mw len = true ↔ ((1 ≤ per ∧ per ≤ 16777216) ∧ 1 ≤ bn ∧ bn ≤ 64 ∧ 1 ≤ mw ∧ mw ≤ 64) ∧ len ≤ 1024 := by
  unfold boxArgs
  simp only [Bool.and_eq_true, decide_eq_true_eq]
  omega
theorem best_first {per bn mw len : Int} {b : Bool} (h : (!(decide (1 ≤ per) && decide (per ≤ 16777216)) || (!([bn, mw].all partOk) || decide (1024 < len))) = b) : (b = true → boxArgs per bn mw len = false) ∧ (b = false → boxArgs per bn mw len = true) := by
  subst h
  unfold partOk
  constructor
  · intro z
    rw [← Bool.not_eq_true]
    intro y
    have y := boxArgs_iff.mp y
    rw [decide_eq_false (show ¬ 1024 < len by omega), decide_eq_true (show 1 ≤ per by omega), decide_eq_true (show per ≤ 16777216 by omega)] at z
    simp only [List.all_cons, List.all_nil] at z
    rw [decide_eq_true (show 1 ≤ bn by omega), decide_eq_true (show bn ≤ 64 by omega), decide_eq_true (show 1 ≤ mw by omega), decide_eq_true (show mw ≤ 64 by omega)] at z
    cases z
  · intro z
    simp only [List.all_cons, List.all_nil, Bool.or_eq_false_iff, Bool.not_eq_false', Bool.and_eq_true, decide_eq_true_eq, decide_eq_false_iff_not, Bool.and_true] at z
    exact boxArgs_iff.mpr (by omega)
/-- name = Totals(bins_of(folded_series(..), bins)) -/
theorem q_totals {σ : L2.St} {H : Hp} {ta : TA} {tz : TS} {D : Ends} {T C a b : Addr} {per : Int} {ts ms : List Int} {i j bins : Nat} (h : EvA ta σ H [.int per, .ref a, .ref b]) (hj : σ[j]? = some (some (.int (bins : Int)))) (hp : 0 < per) (hp2 : per < 4294967296) (hA : SqL K H a (ts.map V.int)) (hB : SqL K H b (ms.map V.int)) (ht : ∀ t ∈ ts, 0 ≤ t) (hl : ts.length = ms.length) (h4 : ts.length ≤ 1024) (hT : LamX.TabS H T lamQ)
    (hb0 : 0 < bins) (hb : bins ≤ 64) (k : ∀ x dx p q H2, TotAt C H2 x dx p q bins (Sh70.fold per.toNat (Sh70Neutral.toNats ts) ms) → tz D (σ.set i (some (.ref x))) H2) :
    tSeq (tAsg (tMake C (spToInit K C) [] E0 (tCons (tCall spBinsOf [] E0 (tCons (tCall (spFolded K T) [] E0 ta) (tCons (tVar j) tNil))) tNil)) (gName i)) tz D σ H :=
  h H (Ex.refl H) _ fun H1 e1 => by
    have hl' : (Sh70Neutral.toNats ts).length = ms.length := by rw [toNats_len]; exact hl
    refine ⟨per, a, b, ts, ms, rfl, hp, hp2, ex_l e1 hA, ex_l e1 hB, ht, hl, by omega, hT.ext e1, fun p qs H2 e2 hT2 hs => ⟨_, hj, ?_⟩⟩
    refine ⟨p, qs, _, bins, rfl, hs, by rw [fold_len hl', toNats_len]; omega, hb0, hb, fold_phase (by omega) hl', fun d bs H3 nd e3 hd ho hf hnd x dx nx ndx ne => ?_⟩
    have s1 : Ex H3 (upd (upd H3 dx (.own x)) x (.ins C dx [])) := fun b o hb => by
      rw [upd_ne (ne_of_none hb nx), upd_ne (ne_of_none hb ndx)]
      exact hb
    exact ⟨x, dx, d, bs, bins, _, rfl, upd_same, s1 _ _ hd, ho.mono s1, hb, fun H' p q hTot _ => ⟨rfl, k x dx p q H' hTot⟩⟩
def spBest (K : PySem.W.Frag) (T : Addr) : Sp := fun vs H Q _ => ∃ (per bn mw : Int) (b a : Addr) (ts ns : List Int), vs = [.int per, .int bn, .int mw, .ref b, .ref a] ∧ SqL K H b (ts.map V.int) ∧ SqL K H a (ns.map V.int) ∧ u32 per ∧ u32 bn ∧ u32 mw ∧ u32s 1100 ts ∧ u32s 1100 ns ∧ (boxArgs per bn mw (ts.length : Int) = true → ts.length = ns.length) ∧ LamX.TabS H T lamQ ∧
  ∀ p H2, H2 p = some (.lst ((PySh70.best_box per bn mw ts ns).map V.int)) → Q (.ref p) H2
theorem ok_best {f fL fA fR fX fB fI fO fP T C : Addr} {fd fdL fdA fdR fdX fdB fdI fdO fdP : FuncData} (F : Fun K "best_box" "best_box" sBest f fd)
    (GL : FnOk P w K mg base CX0 2 fL fdL ["numbers"] (spSignedList K)) (kL : PySem.W.keepIn K (.ref fL) = true) (bL : Binds K fdL ["numbers"] []) (mL : mg "signed_list" = some (.ref fL))
    (GA : FnOk P w K mg base CX0 1 fA fdA ["numbers"] (spAreMag K)) (kA : PySem.W.keepIn K (.ref fA) = true) (bA : Binds K fdA ["numbers"] []) (mA : mg "are_magnitudes" = some (.ref fA))
    (GR : FnOk P w K mg base CX0 1 fR fdR ["numbers"] (spParts K)) (kR : PySem.W.keepIn K (.ref fR) = true) (bR : Binds K fdR ["numbers"] []) (mR : mg "are_parts" = some (.ref fR))
    (GX : FnOk P w K mg base CX0 2 fX fdX ["period", "times", "magnitudes"] (spFolded K T)) (kX : PySem.W.keepIn K (.ref fX) = true) (bX : Binds K fdX ["period", "times", "magnitudes"] []) (mX : mg "folded_series" = some (.ref fX))
    (GB : FnOk P w K mg base CX0 1 fB fdB ["series", "bins"] spBinsOf) (kB : PySem.W.keepIn K (.ref fB) = true) (bB : Binds K fdB ["series", "bins"] []) (mB : mg "bins_of" = some (.ref fB))
    (GI_ : FnOk P w K mg base CX0 1 fI fdI ["self", "parts"] (spToInit K C)) (M : Mk K C fI) (bI : Binds K fdI ["self", "parts"] []) (mC : mg "Totals" = some (.ref C))
    (GO : FnOk P w K mg base CX0 2 fO fdO ["totals", "most"] (spBestOf C)) (kO : PySem.W.keepIn K (.ref fO) = true) (bO : Binds K fdO ["totals", "most"] []) (mO : mg "best_of" = some (.ref fO))
    (GP : FnOk P w K mg base CX0 1 fP fdP ["numbers"] (spGreatTold K)) (kP : PySem.W.keepIn K (.ref fP) = true) (bP : Binds K fdP ["numbers"] []) (mP : mg "great_told" = some (.ref fP))
    (gO : GI mg "OUT_OF_RANGE" (-2)) (gB : GI mg "BAD_MAGNITUDE" (-3)) (gT : GI mg "MOST_TIMES" 1024) (gP : GI mg "MOST_PERIOD" 16777216) (zl : mg "len" = none) :
    FnOk P w K mg base CX0 3 f fd ["period", "bins", "max_width", "times", "magnitudes"] (spBest K T) := by
  refine F.ok scBest (fun vs H Q E h => ?_) (fun cdv A outer s H vs Q E hr h => ?_)
  · obtain ⟨per, bn, mw, b, a, ts, ns, rfl, _⟩ := h
    rfl
  · obtain ⟨per, bn, mw, b, a, ts, ns, rfl, hB, hS, hper, hbn, hmw, hts, hn, hlen, hT, k⟩ := h
    have hr1 : Room 1 _ := hr.mono (by decide)
    refine ⟨_, pss_cons (ps_if (PW.pt (pw_or (pt_not (pt_chain op_le op_le pe_int (pv 0) (pe_gi rfl gP))) (pw_or (pt_not (pt_val (pe_call GR hr1 (by rfl) mR kR bR .nil pass0 (pa_cons (pe_lst (pa_cons (pv 1) (pa_cons (pv 2) pa_nil))) pa_nil)))) (pw_or1 (pt_cmpR op_gt (pe_callB call_len_seq (by rfl) zl PySem.boot_len (pa_cons (pv 3) pa_nil)) (pe_gi rfl gT) (nomark _)))))) (pss_one (ps_ret (pe_lst (pa_cons (pe_gi rfl gO) pa_nil)))) pss_nil)
      (pss_cons (ps_set (i := 5) scBest.nd rfl (Or.inl rfl) (pe_call GL hr (by rfl) mL kL bL .nil pass0 (pa_cons (pv 4) pa_nil)))
      (pss_cons (ps_if (pt_not (pt_val (pe_call GA hr1 (by rfl) mA kA bA .nil pass0 (pa_cons (pv 5) pa_nil)))) (pss_one (ps_ret (pe_lst (pa_cons (pe_gi rfl gB) pa_nil)))) pss_nil)
      (pss_cons (ps_set (i := 6) scBest.nd rfl (Or.inl rfl) (pe_make M GI_ hr rfl mC bI .nil pass0 (pa_cons (pe_call GB hr1 (by rfl) mB kB bB .nil pass0 (pa_cons (pe_call GX hr (by rfl) mX kX bX .nil pass0 (pa_cons (pv 0) (pa_cons (pv 3) (pa_cons (pv 5) pa_nil)))) (pa_cons (pv 1) pa_nil))) pa_nil)))
      (pss_one (ps_ret (pe_op op_cat (pe_lst (pa_cons pe_int pa_nil)) (pe_call GP hr1 (by rfl) mP kP bP .nil pass0 (pa_cons (pe_call GO hr (by rfl) mO kO bO .nil pass0 (pa_cons (pv 6) (pa_cons (pv 2) pa_nil))) pa_nil)))))))), ?_⟩
    have hn0 : ∀ n ∈ ns, 0 ≤ n := fun n h => (hn.2 n h).1
    have ht0 : ∀ n ∈ ts, 0 ≤ n := fun n h => (hts.2 n h).1
    have hl : ns.length ≤ 1100 := hn.1
    have htl : ts.length ≤ 1100 := hts.1
    refine q_when (et_or (a := !(decide (1 ≤ per) && decide (per ≤ 16777216))) (b := !([bn, mw].all partOk) || decide (1024 < (ts.length : Int))) (et_not (et_test (ev_between ev_c (ev_var rfl) ev_c))) (fun _ => et_or (et_not (et_B (ev_callL (xs := ([bn, mw] : List Int).map V.int) (el_lst (ea_cons (ev_var rfl) (ea_cons (ev_var rfl) ea_nil)) small) fun p H1 e1 hp Q1 q1 => ⟨p, [bn, mw], rfl, sq_new hp, small, q1⟩)))
      (fun _ => et_test (ev_op (ev_is (ev_len (ev_var rfl) hB) (by rw [List.length_map])) ev_c rv_I0)))) (fun c0 H1 e1 => ?_) (fun c0 H1 e1 => ?_)
    · rw [box_bad hper.1 hbn.1 hmw.1 ((best_first c0).1 rfl)] at k
      exact s_retL (el_lst (ea_cons ev_c ea_nil) small) fun p H2 _ _ hp => k p H2 hp
    have ok := (best_first c0).2 rfl
    have fa := boxArgs_iff.mp ok
    have hlm := hlen ok
    clear c0
    refine q_asgL (el_callA (xs := (ns.map sg).map V.int) (ea_cons (ev_var rfl) ea_nil) fun H2 e2 Q2 q2 => ⟨a, ns, rfl, ex_l (e1.trans e2) hS, by omega, q2⟩) fun v H2 _ e2 hv => ?_
    refine q_when (et_not (et_B (b := Sh70.areValidMagnitudes (ns.map sg)) (ev_callA (ea_cons (ev_var rfl) ea_nil) fun H3 e3 Q3 q3 => ⟨v, ns.map sg, rfl, sq_new (e3 _ _ hv), by rw [List.length_map]; omega, q3⟩))) (fun c2 H3 e3 => ?_) (fun c2 H3 e3 => ?_)
    · rw [box_mag hper.1 hbn.1 hmw.1 hn0 ok (nt c2)] at k
      exact s_retL (el_lst (ea_cons ev_c ea_nil) small) fun p H4 _ _ hp => k p H4 hp
    rw [box_ok hper.1 hbn.1 hmw.1 hn0 ok (nf c2)] at k
    have hlm2 : ts.length = (ns.map sg).length := by rw [List.length_map]; exact hlm
    obtain ⟨bk, rfl⟩ := Int.eq_ofNat_of_zero_le hbn.1
    obtain ⟨mk, rfl⟩ := Int.eq_ofNat_of_zero_le hmw.1
    rw [show ((bk : Int)).toNat = bk from rfl, show ((mk : Int)).toNat = mk from rfl] at k
    have tl' : (Sh70Neutral.toNats ts).length = (ns.map sg).length := by rw [toNats_len]; exact hlm2
    have sph := fold_phase (period := per.toNat) (by omega) tl'
    have sl : (Sh70.fold per.toNat (Sh70Neutral.toNats ts) (ns.map sg)).length ≤ 1024 := by
      rw [fold_len tl', toNats_len]
      omega
    refine q_totals (K := K) (T := T) (C := C) (ts := ts) (ms := ns.map sg) (bins := bk) (ea_cons (ev_var rfl) (ea_cons (ev_var rfl) (ea_cons (ev_var rfl) ea_nil))) rfl (by omega) (by omega) (ex_l ((e1.trans e2).trans e3) hB) (sq_new (e3 _ _ hv)) ht0 hlm2 (by omega) (hT.ext ((e1.trans e2).trans e3)) (by omega) (by omega) fun x dx p q H4 hTot => ?_
    generalize Sh70.fold per.toNat (Sh70Neutral.toNats ts) (ns.map sg) = sr at *
    refine s_retL (xs := ([0] : List Int).map V.int ++ ((boxI (Sh70.bestBox bk mk sr)).map fun z => z % 18446744073709551616).map V.int) (el_cat (el_lst (ea_cons ev_c ea_nil) small) (el_callL (xs := (boxI (Sh70.bestBox bk mk sr)).map V.int) (el_callA (ea_cons (ev_var rfl) (ea_cons (ev_var rfl) ea_nil)) fun H5 e5 Q5 q5 => ⟨x, dx, p, q, bk, mk, sr, rfl, hTot.mono e5, by omega, by omega, sl, sph, q5⟩) fun d H6 e6 hd Q6 q6 => ⟨d, boxI (Sh70.bestBox bk mk sr), rfl, sq_new hd, small, q6⟩) small) fun d H6 _ _ hd => k d H6 ?_
    rw [hd, ← List.map_append]
end
/-! ### what the top has written: every address a letter -/
theorem all_mk {P : Program} {w : World} {K : PySem.W.Frag} {h : Heap} {mg : Str → Option Value} {fa CTotals f0 f1 f2 f3 f4 f5 f6 f7 f8 f9 f10 f11 : Addr} (X : K.In h) (G : h.Ns mainGlobals mg) (hfa : mg "best_box" = some (.ref fa))
    {od0 an0 od1 an1 od2 an2 od3 an3 od4 an4 od5 an5 od6 an6 od7 an7 od8 an8 od9 an9 od10 an10 od11 an11 : Option Addr} {sl0 sl1 sl2 sl3 sl4 sl5 sl6 sl7 sl8 sl9 sl10 sl11 : Array (Option Value)} {oc0 kV0 dc0 pm0 ct0 cd0 oc1 kV1 dc1 pm1 ct1 cd1 oc2 kV2 dc2 pm2 ct2 cd2 oc3 kV3 dc3 pm3 ct3 oc4 kV4 dc4 pm4 ct4 cd4 oc5 kV5 dc5 pm5 ct5 cd5 oc6 kV6 dc6 pm6 ct6 cd6 oc7 kV7 dc7 pm7 ct7 cd7 oc8 kV8 dc8 pm8 ct8 cd8 oc9 kV9 dc9 pm9 ct9 cd9 oc10 kV10 dc10 pm10 ct10 cd10 oc11 kV11 dc11 pm11 ct11 cd11 : Value} {t_SMALL t_GREAT t_TURN t_OUT_OF_RANGE t_BAD_MAGNITUDE t_MOST_TIMES t_MOST_MAGNITUDE t_MOST_PERIOD t_MOST_PARTS : Tok} {cL : Addr}
    (aTotals : PySem.W.nsIn K mainGlobals "Totals" = some (some (.ref CTotals)))
    (a0 : PySem.W.nsIn K mainGlobals "signed" = some (some (.ref f0)))
    (l0 : K.lookup f0 = some ⟨oc0, od0, .func (PySem.W.fnOf "signed" "signed" (defArgs sSigned) (defBody sSigned) (defScope sSigned) .none kV0 dc0 pm0 an0 cd0 ct0), sl0⟩)
    (c0 : PySem.W.codeIn K cd0 "signed" = true)
    (k0 : PySem.W.keepIn K (.ref f0) = true)
    (a1 : PySem.W.nsIn K mainGlobals "great_told" = some (some (.ref f1)))
    (l1 : K.lookup f1 = some ⟨oc1, od1, .func (PySem.W.fnOf "great_told" "great_told" (defArgs sGreatTold) (defBody sGreatTold) (defScope sGreatTold) .none kV1 dc1 pm1 an1 cd1 ct1), sl1⟩)
    (c1 : PySem.W.codeIn K cd1 "great_told" = true)
    (k1 : PySem.W.keepIn K (.ref f1) = true)
    (a2 : PySem.W.nsIn K mainGlobals "phase_of" = some (some (.ref f2)))
    (l2 : K.lookup f2 = some ⟨oc2, od2, .func (PySem.W.fnOf "phase_of" "phase_of" (defArgs sPhaseOf) (defBody sPhaseOf) (defScope sPhaseOf) .none kV2 dc2 pm2 an2 cd2 ct2), sl2⟩)
    (c2 : PySem.W.codeIn K cd2 "phase_of" = true)
    (k2 : PySem.W.keepIn K (.ref f2) = true)
    (a3 : PySem.W.nsIn K mainGlobals "folded_series" = some (some (.ref f3)))
    (l3 : K.lookup f3 = some ⟨oc3, od3, .func (PySem.W.fnOf "folded_series" "folded_series" (defArgs sFolded) (defBody sFolded) (defScope sFolded) .none kV3 dc3 pm3 an3 (.ref cL) ct3), sl3⟩)
    (c3 : PySem.W.codeIn K (.ref cL) "folded_series" = true)
    (k3 : PySem.W.keepIn K (.ref f3) = true)
    (a4 : PySem.W.nsIn K mainGlobals "bins_of" = some (some (.ref f4)))
    (l4 : K.lookup f4 = some ⟨oc4, od4, .func (PySem.W.fnOf "bins_of" "bins_of" (defArgs sBinsOf) (defBody sBinsOf) (defScope sBinsOf) .none kV4 dc4 pm4 an4 cd4 ct4), sl4⟩)
    (c4 : PySem.W.codeIn K cd4 "bins_of" = true)
    (k4 : PySem.W.keepIn K (.ref f4) = true)
    (a5 : PySem.W.findIn K (.ref CTotals) "__init__" = some (some (.ref f5)))
    (i5 : PySem.W.isFn K (.ref f5) = true)
    (l5 : K.lookup f5 = some ⟨oc5, od5, .func (PySem.W.fnOf "__init__" "Totals.__init__" (defArgs sToInit) (defBody sToInit) (defScope sToInit) .none kV5 dc5 pm5 an5 cd5 ct5), sl5⟩)
    (c5 : PySem.W.codeIn K cd5 "Totals.__init__" = true)
    (k5 : PySem.W.keepIn K (.ref f5) = true)
    (a6 : PySem.W.findIn K (.ref CTotals) "depth" = some (some (.ref f6)))
    (i6 : PySem.W.isFn K (.ref f6) = true)
    (l6 : K.lookup f6 = some ⟨oc6, od6, .func (PySem.W.fnOf "depth" "Totals.depth" (defArgs sDepth) (defBody sDepth) (defScope sDepth) .none kV6 dc6 pm6 an6 cd6 ct6), sl6⟩)
    (c6 : PySem.W.codeIn K cd6 "Totals.depth" = true)
    (k6 : PySem.W.keepIn K (.ref f6) = true)
    (a7 : PySem.W.nsIn K mainGlobals "best_of" = some (some (.ref f7)))
    (l7 : K.lookup f7 = some ⟨oc7, od7, .func (PySem.W.fnOf "best_of" "best_of" (defArgs sBestOf) (defBody sBestOf) (defScope sBestOf) .none kV7 dc7 pm7 an7 cd7 ct7), sl7⟩)
    (c7 : PySem.W.codeIn K cd7 "best_of" = true)
    (k7 : PySem.W.keepIn K (.ref f7) = true)
    (a8 : PySem.W.nsIn K mainGlobals "are_magnitudes" = some (some (.ref f8)))
    (l8 : K.lookup f8 = some ⟨oc8, od8, .func (PySem.W.fnOf "are_magnitudes" "are_magnitudes" (defArgs sAreMag) (defBody sAreMag) (defScope sAreMag) .none kV8 dc8 pm8 an8 cd8 ct8), sl8⟩)
    (c8 : PySem.W.codeIn K cd8 "are_magnitudes" = true)
    (k8 : PySem.W.keepIn K (.ref f8) = true)
    (a9 : PySem.W.nsIn K mainGlobals "signed_list" = some (some (.ref f9)))
    (l9 : K.lookup f9 = some ⟨oc9, od9, .func (PySem.W.fnOf "signed_list" "signed_list" (defArgs sSignedList) (defBody sSignedList) (defScope sSignedList) .none kV9 dc9 pm9 an9 cd9 ct9), sl9⟩)
    (c9 : PySem.W.codeIn K cd9 "signed_list" = true)
    (k9 : PySem.W.keepIn K (.ref f9) = true)
    (a10 : PySem.W.nsIn K mainGlobals "are_parts" = some (some (.ref f10)))
    (l10 : K.lookup f10 = some ⟨oc10, od10, .func (PySem.W.fnOf "are_parts" "are_parts" (defArgs sParts) (defBody sParts) (defScope sParts) .none kV10 dc10 pm10 an10 cd10 ct10), sl10⟩)
    (c10 : PySem.W.codeIn K cd10 "are_parts" = true)
    (k10 : PySem.W.keepIn K (.ref f10) = true)
    (a11 : PySem.W.nsIn K mainGlobals "best_box" = some (some (.ref f11)))
    (l11 : K.lookup f11 = some ⟨oc11, od11, .func (PySem.W.fnOf "best_box" "best_box" (defArgs sBest) (defBody sBest) (defScope sBest) .none kV11 dc11 pm11 an11 cd11 ct11), sl11⟩)
    (c11 : PySem.W.codeIn K cd11 "best_box" = true)
    (k11 : PySem.W.keepIn K (.ref f11) = true)
    (pgTotals : PySem.W.plainGet K CTotals Str.empty = true)
    (hdTotals : PySem.W.hasDictIn K CTotals = true)
    (poTotals : PySem.W.plainOver K CTotals = true)
    (saTotals : PySem.W.findIn K (.ref CTotals) "__setattr__" = some (some (.builtin "object.__setattr__")))
    (mkTotals : PySem.W.makesIn K CTotals = true)
    (kcTotals : PySem.W.keepIn K (.ref CTotals) = true)
    (nTotals_counts : PySem.W.findIn K (.ref CTotals) "counts" = some none)
    (nTotals_sums : PySem.W.findIn K (.ref CTotals) "sums" = some none)
    (g_SMALL : PySem.W.nsIn K mainGlobals "SMALL" = some (some (.int 4294967296 t_SMALL)))
    (g_GREAT : PySem.W.nsIn K mainGlobals "GREAT" = some (some (.int 18446744073709551616 t_GREAT)))
    (g_TURN : PySem.W.nsIn K mainGlobals "TURN" = some (some (.int 65536 t_TURN)))
    (g_OUT_OF_RANGE : PySem.W.nsIn K mainGlobals "OUT_OF_RANGE" = some (some (.int (-2) t_OUT_OF_RANGE)))
    (g_BAD_MAGNITUDE : PySem.W.nsIn K mainGlobals "BAD_MAGNITUDE" = some (some (.int (-3) t_BAD_MAGNITUDE)))
    (g_MOST_TIMES : PySem.W.nsIn K mainGlobals "MOST_TIMES" = some (some (.int 1024 t_MOST_TIMES)))
    (g_MOST_MAGNITUDE : PySem.W.nsIn K mainGlobals "MOST_MAGNITUDE" = some (some (.int 99999 t_MOST_MAGNITUDE)))
    (g_MOST_PERIOD : PySem.W.nsIn K mainGlobals "MOST_PERIOD" = some (some (.int 16777216 t_MOST_PERIOD)))
    (g_MOST_PARTS : PySem.W.nsIn K mainGlobals "MOST_PARTS" = some (some (.int 64 t_MOST_PARTS)))
    (z_len : PySem.W.nsIn K mainGlobals "len" = some none)
    (z_all : PySem.W.nsIn K mainGlobals "all" = some none)
    (z_abs : PySem.W.nsIn K mainGlobals "abs" = some none)
    (z_sum : PySem.W.nsIn K mainGlobals "sum" = some none)
    (z_sorted : PySem.W.nsIn K mainGlobals "sorted" = some none)
    (z_range : PySem.W.nsIn K mainGlobals "range" = some none)
    (z_min : PySem.W.nsIn K mainGlobals "min" = some none)
    (ti : PySem.W.tabIn K "folded_series" = some (cL, tabP K))
    (no : PySem.W.noTabs K = true)
    :
    ∃ (fd : FuncData) (c T : Addr), PySem.W.tabIn K "folded_series" = some (c, T) ∧ PySem.W.noTabs K = true ∧ (∀ (s : Shared) (us : List Value), us.length = (["period", "bins", "max_width", "times", "magnitudes"] : List Str).length → BindsTo s fd ⟨us, []⟩ ((["period", "bins", "max_width", "times", "magnitudes"] : List Str).zip us)) ∧ ∀ base : Heap, K.In base → base.Ns mainGlobals mg → LamX.TabB base mg c T → FnOk P w K mg base CX0 3 fa fd ["period", "bins", "max_width", "times", "magnitudes"] (spBest K T) := by
  have e := hfa.symm.trans (PySem.W.mg_of X G a11)
  cases e
  have T_Totals : Cls K CTotals := ⟨pgTotals, hdTotals, poTotals, saTotals⟩
  have m_Totals := PySem.W.mg_of X G aTotals
  have F_signed := fun_mk (st := sSigned) l0 c0 k0
  have b_signed := F_signed.binds (ps := ["number"]) fun _ _ _ _ _ _ us hl => match us, hl with | [_], _ => rfl
  have m_signed := PySem.W.mg_of X G a0
  have F_great_told := fun_mk (st := sGreatTold) l1 c1 k1
  have b_great_told := F_great_told.binds (ps := ["numbers"]) fun _ _ _ _ _ _ us hl => match us, hl with | [_], _ => rfl
  have m_great_told := PySem.W.mg_of X G a1
  have F_phase_of := fun_mk (st := sPhaseOf) l2 c2 k2
  have b_phase_of := F_phase_of.binds (ps := ["time", "period"]) fun _ _ _ _ _ _ us hl => match us, hl with | [_, _], _ => rfl
  have m_phase_of := PySem.W.mg_of X G a2
  have FC_folded_series := funC_mk (st := sFolded) l3 c3 k3
  have F_folded_series := FC_folded_series.toFun
  have b_folded_series := F_folded_series.binds (ps := ["period", "times", "magnitudes"]) fun _ _ _ _ _ _ us hl => match us, hl with | [_, _, _], _ => rfl
  have m_folded_series := PySem.W.mg_of X G a3
  have F_bins_of := fun_mk (st := sBinsOf) l4 c4 k4
  have b_bins_of := F_bins_of.binds (ps := ["series", "bins"]) fun _ _ _ _ _ _ us hl => match us, hl with | [_, _], _ => rfl
  have m_bins_of := PySem.W.mg_of X G a4
  have F_Totals___init__ := fun_mk (st := sToInit) l5 c5 k5
  have b_Totals___init__ := F_Totals___init__.binds (ps := ["self", "parts"]) fun _ _ _ _ _ _ us hl => match us, hl with | [_, _], _ => rfl
  have mk_Totals : Mk K CTotals f5 := ⟨mkTotals, a5, i5, kcTotals⟩
  have F_Totals_depth := fun_mk (st := sDepth) l6 c6 k6
  have b_Totals_depth := F_Totals_depth.binds (ps := ["self", "start", "width"]) fun _ _ _ _ _ _ us hl => match us, hl with | [_, _, _], _ => rfl
  have m_Totals_depth : Meth K CTotals "depth" f6 := ⟨a6, i6, k6⟩
  have F_best_of := fun_mk (st := sBestOf) l7 c7 k7
  have b_best_of := F_best_of.binds (ps := ["totals", "most"]) fun _ _ _ _ _ _ us hl => match us, hl with | [_, _], _ => rfl
  have m_best_of := PySem.W.mg_of X G a7
  have F_are_magnitudes := fun_mk (st := sAreMag) l8 c8 k8
  have b_are_magnitudes := F_are_magnitudes.binds (ps := ["numbers"]) fun _ _ _ _ _ _ us hl => match us, hl with | [_], _ => rfl
  have m_are_magnitudes := PySem.W.mg_of X G a8
  have F_signed_list := fun_mk (st := sSignedList) l9 c9 k9
  have b_signed_list := F_signed_list.binds (ps := ["numbers"]) fun _ _ _ _ _ _ us hl => match us, hl with | [_], _ => rfl
  have m_signed_list := PySem.W.mg_of X G a9
  have F_are_parts := fun_mk (st := sParts) l10 c10 k10
  have b_are_parts := F_are_parts.binds (ps := ["numbers"]) fun _ _ _ _ _ _ us hl => match us, hl with | [_], _ => rfl
  have m_are_parts := PySem.W.mg_of X G a10
  have F_best_box := fun_mk (st := sBest) l11 c11 k11
  have b_best_box := F_best_box.binds (ps := ["period", "bins", "max_width", "times", "magnitudes"]) fun _ _ _ _ _ _ us hl => match us, hl with | [_, _, _, _, _], _ => rfl
  have m_best_box := PySem.W.mg_of X G a11
  have g_SMALL : GI mg "SMALL" 4294967296 := ⟨_, PySem.W.mg_of X G g_SMALL⟩
  have g_GREAT : GI mg "GREAT" 18446744073709551616 := ⟨_, PySem.W.mg_of X G g_GREAT⟩
  have g_TURN : GI mg "TURN" 65536 := ⟨_, PySem.W.mg_of X G g_TURN⟩
  have g_OUT_OF_RANGE : GI mg "OUT_OF_RANGE" (-2) := ⟨_, PySem.W.mg_of X G g_OUT_OF_RANGE⟩
  have g_BAD_MAGNITUDE : GI mg "BAD_MAGNITUDE" (-3) := ⟨_, PySem.W.mg_of X G g_BAD_MAGNITUDE⟩
  have g_MOST_TIMES : GI mg "MOST_TIMES" 1024 := ⟨_, PySem.W.mg_of X G g_MOST_TIMES⟩
  have g_MOST_MAGNITUDE : GI mg "MOST_MAGNITUDE" 99999 := ⟨_, PySem.W.mg_of X G g_MOST_MAGNITUDE⟩
  have g_MOST_PERIOD : GI mg "MOST_PERIOD" 16777216 := ⟨_, PySem.W.mg_of X G g_MOST_PERIOD⟩
  have g_MOST_PARTS : GI mg "MOST_PARTS" 64 := ⟨_, PySem.W.mg_of X G g_MOST_PARTS⟩
  have z_len := PySem.W.mg_none_of X G z_len
  have z_all := PySem.W.mg_none_of X G z_all
  have z_abs := PySem.W.mg_none_of X G z_abs
  have z_sum := PySem.W.mg_none_of X G z_sum
  have z_sorted := PySem.W.mg_none_of X G z_sorted
  have z_range := PySem.W.mg_none_of X G z_range
  have z_min := PySem.W.mg_none_of X G z_min
  have TX : TotTxt K CTotals := ⟨T_Totals, nTotals_counts, nTotals_sums⟩
  exact ⟨PySem.W.fnOf "best_box" "best_box" (defArgs sBest) (defBody sBest) (defScope sBest) .none kV11 dc11 pm11 an11 cd11 ct11, cL, tabP K, ti, no, fun s us hu => match us, hu with | [_, _, _, _, _], _ => .of_eq rfl, fun base _ _ TB => ok_best F_best_box (ok_signed_list F_signed_list F_signed b_signed m_signed g_SMALL) F_signed_list.kp b_signed_list m_signed_list (ok_are_mag F_are_magnitudes g_MOST_MAGNITUDE z_all z_abs) F_are_magnitudes.kp b_are_magnitudes m_are_magnitudes (ok_parts F_are_parts g_MOST_PARTS z_all) F_are_parts.kp b_are_parts m_are_parts (ok_folded FC_folded_series TB F_phase_of b_phase_of m_phase_of g_TURN z_sorted z_range z_len) F_folded_series.kp b_folded_series m_folded_series (ok_bins F_bins_of g_TURN z_range) F_bins_of.kp b_bins_of m_bins_of (ok_toinit F_Totals___init__ TX z_len z_sum) mk_Totals b_Totals___init__ m_Totals (ok_best_of F_best_of TX F_Totals_depth b_Totals_depth m_Totals_depth z_len z_sum z_range z_min) F_best_of.kp b_best_of m_best_of (ok_great_told F_great_told g_GREAT) F_great_told.kp b_great_told m_great_told g_OUT_OF_RANGE g_BAD_MAGNITUDE g_MOST_TIMES g_MOST_PERIOD z_len⟩
end LC
open PySem PySem.W PyProof.Rows
set_option maxRecDepth 100000 in
set_option maxHeartbeats 8000000 in
theorem PySem.Challenge.cw_lightcurves_s08_best_box_holds : PySem.Challenge.rw_lightcurves_s08_best_box.Holds := by
  w_on; k_headS; (case hw => exact ⟨[.int 0, .int 0, .int 0, .list [], .list []], by decide +kernel, by decide +kernel⟩)
  k_fillS
  refine LC.walk_specT (r := PySem.Challenge.rw_lightcurves_s08_best_box) (lv := 3) (CX := L2.CX0) (ps := ["period", "bins", "max_width", "times", "magnitudes"]) (lam := "folded_series") (sp := fun K T => LC.spBest K T) (by decide +kernel) rfl ⟨rfl, by decide, by decide⟩ (fun w h Y => PySem.W.kIn_of Y) rfl ?F ?S (fun _ _ _ _ z => z)
  case F =>
    intro w mg fa h Y KX G hmg
    refine' LC.all_mk KX G hmg ?aTotals ?a0 ?l0 ?c0 ?k0 ?a1 ?l1 ?c1 ?k1 ?a2 ?l2 ?c2 ?k2 ?a3 ?l3 ?c3 ?k3 ?a4 ?l4 ?c4 ?k4 ?a5 ?i5 ?l5 ?c5 ?k5 ?a6 ?i6 ?l6 ?c6 ?k6 ?a7 ?l7 ?c7 ?k7 ?a8 ?l8 ?c8 ?k8 ?a9 ?l9 ?c9 ?k9 ?a10 ?l10 ?c10 ?k10 ?a11 ?l11 ?c11 ?k11 ?pgTotals ?hdTotals ?poTotals ?saTotals ?mkTotals ?kcTotals ?nTotals_counts ?nTotals_sums ?g_SMALL ?g_GREAT ?g_TURN ?g_OUT_OF_RANGE ?g_BAD_MAGNITUDE ?g_MOST_TIMES ?g_MOST_MAGNITUDE ?g_MOST_PERIOD ?g_MOST_PARTS ?z_len ?z_all ?z_abs ?z_sum ?z_sorted ?z_range ?z_min ?ti ?no
    (case aTotals => k_is)
    (case a0 => k_is)
    (case l0 => k_is)
    (case c0 => k_is)
    (case k0 => k_is)
    (case a1 => k_is)
    (case l1 => k_is)
    (case c1 => k_is)
    (case k1 => k_is)
    (case a2 => k_is)
    (case l2 => k_is)
    (case c2 => k_is)
    (case k2 => k_is)
    (case a3 => k_is)
    (case l3 => k_is)
    (case c3 => k_is)
    (case k3 => k_is)
    (case a4 => k_is)
    (case l4 => k_is)
    (case c4 => k_is)
    (case k4 => k_is)
    (case a5 => k_is)
    (case i5 => k_is)
    (case l5 => k_is)
    (case c5 => k_is)
    (case k5 => k_is)
    (case a6 => k_is)
    (case i6 => k_is)
    (case l6 => k_is)
    (case c6 => k_is)
    (case k6 => k_is)
    (case a7 => k_is)
    (case l7 => k_is)
    (case c7 => k_is)
    (case k7 => k_is)
    (case a8 => k_is)
    (case l8 => k_is)
    (case c8 => k_is)
    (case k8 => k_is)
    (case a9 => k_is)
    (case l9 => k_is)
    (case c9 => k_is)
    (case k9 => k_is)
    (case a10 => k_is)
    (case l10 => k_is)
    (case c10 => k_is)
    (case k10 => k_is)
    (case a11 => k_is)
    (case l11 => k_is)
    (case c11 => k_is)
    (case k11 => k_is)
    (case pgTotals => k_is)
    (case hdTotals => k_is)
    (case poTotals => k_is)
    (case saTotals => k_is)
    (case mkTotals => k_is)
    (case kcTotals => k_is)
    (case nTotals_counts => k_is)
    (case nTotals_sums => k_is)
    (case g_SMALL => k_is)
    (case g_GREAT => k_is)
    (case g_TURN => k_is)
    (case g_OUT_OF_RANGE => k_is)
    (case g_BAD_MAGNITUDE => k_is)
    (case g_MOST_TIMES => k_is)
    (case g_MOST_MAGNITUDE => k_is)
    (case g_MOST_PERIOD => k_is)
    (case g_MOST_PARTS => k_is)
    (case z_len => k_is)
    (case z_all => k_is)
    (case z_abs => k_is)
    (case z_sum => k_is)
    (case z_sorted => k_is)
    (case z_range => k_is)
    (case z_min => k_is)
    (case ti => exact (by kernel_rfl))
    (case no => exact (by kernel_rfl))
  case S =>
    intro K T H H1 xs a hE hT0 hwi hask hx
    obtain ⟨per, bn, mw, ts, ns, u⟩ := a
    obtain ⟨x0, r0, rfl, d0, hx⟩ := LC.dw_cons hx
    obtain ⟨x1, r1, rfl, d1, hx⟩ := LC.dw_cons hx
    obtain ⟨x2, r2, rfl, d2, hx⟩ := LC.dw_cons hx
    obtain ⟨x3, r3, rfl, d3, hx⟩ := LC.dw_cons hx
    obtain ⟨x4, r4, rfl, d4, hx⟩ := LC.dw_cons hx
    cases LC.dw_nil hx
    cases LC.dw_int d0
    cases LC.dw_int d1
    cases LC.dw_int d2
    obtain ⟨p_ts, rfl, h_ts⟩ := LC.dw_list d3
    obtain ⟨p_ns, rfl, h_ns⟩ := LC.dw_list d4
    have q : (Codec.inInt 0 4294967295 per && (Codec.inInt 0 4294967295 bn && (Codec.inInt 0 4294967295 mw && ((Codec.inLen 0 1100 ts && ts.all (Codec.inInt 0 4294967295)) && ((Codec.inLen 0 1100 ns && ns.all (Codec.inInt 0 4294967295)) && true))))) = true := hwi
    have q0 := q
    obtain ⟨w_per, q0⟩ := Bool.and_eq_true_iff.mp q0
    have u_per := LC.u32_of w_per
    obtain ⟨w_bn, q0⟩ := Bool.and_eq_true_iff.mp q0
    have u_bn := LC.u32_of w_bn
    obtain ⟨w_mw, q0⟩ := Bool.and_eq_true_iff.mp q0
    have u_mw := LC.u32_of w_mw
    obtain ⟨w_ts, q0⟩ := Bool.and_eq_true_iff.mp q0
    have u_ts := LC.u32s_of w_ts
    obtain ⟨w_ns, q0⟩ := Bool.and_eq_true_iff.mp q0
    have u_ns := LC.u32s_of w_ns
    exact ⟨per, bn, mw, p_ts, p_ns, ts, ns, rfl, Evl.ex_l hE h_ts, Evl.ex_l hE h_ns, u_per, u_bn, u_mw, u_ts, u_ns, fun hl => LC.box_asked u_per.1 u_bn.1 u_mw.1 hask hl, LC.tabS_new hT0, fun p H2 hp => LC.dw_ans hp⟩
