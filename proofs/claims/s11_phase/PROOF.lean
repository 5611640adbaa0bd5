import PyProof.Rows.All
import KE.OsGo
import KE.OsArgs
import PySem.Challenge.RW_lightcurves_s11_phase
namespace LC
/-! ### numbers -/
/-- the signed number that is told by one from 0 on -/
def sg (n : Int) : Int := if 2147483648 ≤ n then n - 4294967296 else n
theorem sg_signed {n : Int} (h : 0 ≤ n) : sg n = Sh70.signed32 n.toNat := by
  unfold sg Sh70.signed32
  split <;> split <;> omega
theorem sg_words : ∀ {ns : List Int}, (∀ n ∈ ns, 0 ≤ n) → Sh70.signedWords (Sh70Neutral.toNats ns) = ns.map sg
  | [], _ => rfl
  | n :: r, h => by
    have ih := sg_words (ns := r) fun m hm => h m (List.mem_cons_of_mem _ hm)
    show Sh70.signed32 n.toNat :: Sh70.signedWords (Sh70Neutral.toNats r) = sg n :: r.map sg
    rw [ih, sg_signed (h n (List.mem_cons_self ..))]
theorem toInt32_sg {n : Int} (h : 0 ≤ n) : Sh70Neutral.toInt32 n.toNat = sg n := by
  unfold sg Sh70Neutral.toInt32
  split <;> split <;> omega
theorem toNats_len (ns : List Int) : (Sh70Neutral.toNats ns).length = ns.length := by
  unfold Sh70Neutral.toNats
  rw [List.length_map]
theorem sum_eq (l : List Int) : Sh70.sum l = l.sum := rfl
theorem w32 : ∀ l : List Int, Sh70Neutral.toInts (l.map Sh70.word32) = l.map fun z => z % 4294967296
  | [] => rfl
  | z :: r => by
    show ((Sh70.word32 z : Nat) : Int) :: Sh70Neutral.toInts (r.map Sh70.word32) = z % 4294967296 :: r.map fun z => z % 4294967296
    rw [w32 r]
    have e : ((Sh70.word32 z : Nat) : Int) = z % 4294967296 := by
      unfold Sh70.word32
      omega
    rw [e]
theorem w64 (z : Int) : ((Sh70.word64 z : Nat) : Int) = z % 18446744073709551616 := by
  unfold Sh70.word64
  omega
/-- what the program asks of a magnitude -/
def magOk (z : Int) : Bool := decide ((if z < 0 then -z else z) ≤ 99999)
theorem mag_is (z : Int) : magOk z = decide (z.natAbs < 100000) := by
  unfold magOk
  by_cases h : z < 0
  · rw [if_pos h]
    exact decide_eq_decide.mpr (by omega)
  · rw [if_neg h]
    exact decide_eq_decide.mpr (by omega)
theorem mags_are (l : List Int) : l.all magOk = Sh70.areValidMagnitudes l := by
  unfold Sh70.areValidMagnitudes
  rw [show magOk = fun a => decide (a.natAbs < 100000) from funext mag_is]
/-- the counts of a table -/
def tabOk (sc len : Int) : Bool := decide (1 ≤ sc) && decide (sc ≤ 32) && (decide (1 ≤ len / sc) && decide (len / sc ≤ 64))
theorem tab_is {sc : Int} {n : Nat} (h : 0 ≤ sc) : Sh70.isTableSize sc.toNat (n / sc.toNat) = tabOk sc (n : Int) := by
  obtain ⟨k, rfl⟩ := Int.eq_ofNat_of_zero_le h
  unfold Sh70.isTableSize Sh70.isBetween tabOk
  rw [show ((k : Int)).toNat = k from rfl]
  have e1 : decide (1 ≤ k) = decide ((1 : Int) ≤ (k : Int)) := decide_eq_decide.mpr (by omega)
  have e2 : decide (k ≤ 32) = decide ((k : Int) ≤ 32) := decide_eq_decide.mpr (by omega)
  have e0 : (n : Int) / (k : Int) = ((n / k : Nat) : Int) := (Int.natCast_ediv n k).symm
  have e3 : decide (1 ≤ n / k) = decide ((1 : Int) ≤ (n : Int) / (k : Int)) := decide_eq_decide.mpr (by rw [e0]; omega)
  have e4 : decide (n / k ≤ 64) = decide ((n : Int) / (k : Int) ≤ 64) := decide_eq_decide.mpr (by rw [e0]; omega)
  rw [e1, e2, e3, e4]
/-- one item more -/
theorem take_more {α : Type} : ∀ {l : List α} {i : Nat} {x : α}, l[i]? = some x → l.take (i + 1) = l.take i ++ [x]
  | [], i, x, h => by simp at h
  | a :: l, 0, x, h => by
    have e : a = x := Option.some.inj h
    subst e
    rfl
  | a :: l, i + 1, x, h => by
    have ih := take_more (l := l) (i := i) (x := x) h
    show a :: l.take (i + 1) = a :: l.take i ++ [x]
    rw [ih]
    rfl
theorem map_get {α β : Type} {f : α → β} {l : List α} {i : Nat} {y : β} (h : (l.map f)[i]? = some y) : ∃ x, l[i]? = some x ∧ y = f x := by
  rw [List.getElem?_map] at h
  cases e : l[i]? with
  | none =>
    rw [e] at h
    cases h
  | some x =>
    rw [e] at h
    exact ⟨x, rfl, (Option.some.inj h).symm⟩
end LC
namespace LC
/-! ### parabola_minimum, phase -/
section
variable {time step a b c : Int}
def paraI (time step a b c : Int) : Int := if 0 < a - 2 * b + c then time + (2 * (step * (a - c)) + 2 * (a - 2 * b + c)) / (2 * (2 * (a - 2 * b + c))) else time
theorem para_is (time step a b c : Int) : Sh70.parabolaMinimum time step a b c = paraI time step a b c := by
  unfold Sh70.parabolaMinimum paraI
  by_cases h : a - 2 * b + c ≤ 0
  · rw [if_pos h, if_neg (by omega)]
  · rw [if_neg h, if_pos (by omega)]
    rfl
theorem step_args (h0 : 0 ≤ step) : Sh70.isBetween step.toNat 1 65536 = (decide (1 ≤ step) && decide (step ≤ 65536)) := by
  rw [Bool.eq_iff_iff]
  unfold Sh70.isBetween
  simp only [Bool.and_eq_true, decide_eq_true_eq]
  omega
theorem para_bad (h0 : 0 ≤ step) (h : (decide (1 ≤ step) && decide (step ≤ 65536)) = false) : PySh70.parabola_minimum time step a b c = [-2] := by
  show (match (some (if Sh70.isBetween step.toNat 1 65536 = true then Sh70.Call.parabolaMinimum (Sh70Neutral.toInt32 time.toNat) (step.toNat : Int) (Sh70Neutral.toInt32 a.toNat) (Sh70Neutral.toInt32 b.toNat) (Sh70Neutral.toInt32 c.toNat) else .invalid) : Option Sh70.Call) with | none => [] | some parsed => Sh70Neutral.flatten (Sh70.answer parsed)) = _
  rw [step_args h0, h]
  rfl
theorem para_ok (ht : 0 ≤ time) (h0 : 0 ≤ step) (ha : 0 ≤ a) (hb : 0 ≤ b) (hc : 0 ≤ c) (h : (decide (1 ≤ step) && decide (step ≤ 65536)) = true) : PySh70.parabola_minimum time step a b c = [0] ++ [paraI (sg time) step (sg a) (sg b) (sg c)].map fun z => z % 18446744073709551616 := by
  show (match (some (if Sh70.isBetween step.toNat 1 65536 = true then Sh70.Call.parabolaMinimum (Sh70Neutral.toInt32 time.toNat) (step.toNat : Int) (Sh70Neutral.toInt32 a.toNat) (Sh70Neutral.toInt32 b.toNat) (Sh70Neutral.toInt32 c.toNat) else .invalid) : Option Sh70.Call) with | none => [] | some parsed => Sh70Neutral.flatten (Sh70.answer parsed)) = _
  rw [step_args h0, h, if_pos rfl, toInt32_sg ht, toInt32_sg ha, toInt32_sg hb, toInt32_sg hc, Int.toNat_of_nonneg h0]
  show [(0 : Int), ((Sh70.word64 (Sh70.parabolaMinimum (sg time) step (sg a) (sg b) (sg c)) : Nat) : Int)] = _
  rw [w64, para_is]
  rfl
theorem phase_cast {p t : Int} (hp : 0 < p) (ht : 0 ≤ t) : ((Sh70.phase p.toNat t.toNat : Nat) : Int) = (65536 * (t % p)) / p := by
  obtain ⟨k, rfl⟩ := Int.eq_ofNat_of_zero_le (show 0 ≤ p by omega)
  obtain ⟨m, rfl⟩ := Int.eq_ofNat_of_zero_le ht
  show ((65536 * (m % k) / k : Nat) : Int) = _
  rw [Int.natCast_ediv, Int.natCast_mul, Int.natCast_emod]
  rfl
theorem phase_ok {p t : Int} (hp : 0 ≤ p) (ht : 0 ≤ t) : PySh70.phase p t = [(65536 * (t % (if p > 1 then p else 1))) / (if p > 1 then p else 1)] := by
  show [((Sh70.phase (max 1 p.toNat) t.toNat : Nat) : Int)] = _
  have e : (max 1 p.toNat) = (if p > 1 then p else 1).toNat := by
    split <;> omega
  rw [e, phase_cast (by split <;> omega) ht]
end
end LC
open PySem PySem.W
set_option Elab.async false
theorem LC.said : PySem.Challenge.rw_lightcurves_s11_phase.wellSaid = true := by decide +kernel
set_option maxRecDepth 100000 in
set_option maxHeartbeats 8000000 in
theorem PySem.Challenge.cw_lightcurves_s11_phase_holds : PySem.Challenge.rw_lightcurves_s11_phase.Holds := by
  open_ks with [.int 1, .int 0]
  os_open LC.said with a w q e
  obtain ⟨p, t, u⟩ := a
  have e1 := (os_j_int (List.cons.inj e).1).symm
  have e2 := (os_j_int (List.cons.inj (List.cons.inj e).2).1).symm
  subst e1 e2
  have w1 : (Codec.inInt 0 4294967295 p && (Codec.inInt 0 4294967295 t && true)) = true := w
  simp only [Bool.and_eq_true, Codec.inInt_iff] at w1
  have hp : 0 ≤ p := w1.1.1
  have ht : 0 ≤ t := w1.2.1.1
  show WData.list [WData.int ((65536 * t.fmod (if p > 1 then p else 1)).fdiv (if p > 1 then p else 1))] = WData.list ((PySh70.phase p t).map WData.int)
  rw [LC.phase_ok hp ht, Int.fmod_eq_emod_of_nonneg _ (by split <;> omega), Int.fdiv_eq_ediv_of_nonneg _ (by split <;> omega)]
  rfl
