import PyProof.Rows.All
import Wide.All
import OpenK.AllK
import Wide.FinOn
import Open.SpecLaws
import KE.OsGo
import HandS.ForSpec
import HandS.Comp
import HandS.Iter
import HandS.Walk
import HandS.Evl
import HandS.Wide
import HandS.NoneIn
import HandS.SortInts
import PySem.Challenge.RW_lightcurves_s09_parabola_minimum
namespace LC
/-! ### numbers -/
/-- the signed number that is told by one from 0 on -/
def sg (n : Int) : Int := if 2147483648 ≤ n then n - 4294967296 else n
theorem sg_signed {n : Int} (h : 0 ≤ n) : sg n = Sh70.signed32 n.toNat := by
  unfold sg Sh70.signed32
  split <;> split <;> omega
theorem sg_words : ∀ {ns : List Int}, (∀ n ∈ ns, 0 ≤ n) → Sh70.signedWords (Sh70Neutral.toNats ns) = ns.map sg
  | [], _ => rfl
  | n :: r, h => by
    have ih := sg_words (ns := r) fun m hm => h m (List.mem_cons_of_mem _ hm)
    show Sh70.signed32 n.toNat :: Sh70.signedWords (Sh70Neutral.toNats r) = sg n :: r.map sg
    rw [ih, sg_signed (h n (List.mem_cons_self ..))]
theorem toInt32_sg {n : Int} (h : 0 ≤ n) : Sh70Neutral.toInt32 n.toNat = sg n := by
  unfold sg Sh70Neutral.toInt32
  split <;> split <;> omega
theorem toNats_len (ns : List Int) : (Sh70Neutral.toNats ns).length = ns.length := by
  unfold Sh70Neutral.toNats
  rw [List.length_map]
theorem sum_eq (l : List Int) : Sh70.sum l = l.sum := rfl
theorem w32 : ∀ l : List Int, Sh70Neutral.toInts (l.map Sh70.word32) = l.map fun z => z % 4294967296
  | [] => rfl
  | z :: r => by
    show ((Sh70.word32 z : Nat) : Int) :: Sh70Neutral.toInts (r.map Sh70.word32) = z % 4294967296 :: r.map fun z => z % 4294967296
    rw [w32 r]
    have e : ((Sh70.word32 z : Nat) : Int) = z % 4294967296 := by
      unfold Sh70.word32
      omega
    rw [e]
theorem w64 (z : Int) : ((Sh70.word64 z : Nat) : Int) = z % 18446744073709551616 := by
  unfold Sh70.word64
  omega
/-- what the program asks of a magnitude -/
def magOk (z : Int) : Bool := decide ((if z < 0 then -z else z) ≤ 99999)
theorem mag_is (z : Int) : magOk z = decide (z.natAbs < 100000) := by
  unfold magOk
  by_cases h : z < 0
  · rw [if_pos h]
    exact decide_eq_decide.mpr (by omega)
  · rw [if_neg h]
    exact decide_eq_decide.mpr (by omega)
theorem mags_are (l : List Int) : l.all magOk = Sh70.areValidMagnitudes l := by
  unfold Sh70.areValidMagnitudes
  rw [show magOk = fun a => decide (a.natAbs < 100000) from funext mag_is]
/-- the counts of a table -/
def tabOk (sc len : Int) : Bool := decide (1 ≤ sc) && decide (sc ≤ 32) && (decide (1 ≤ len / sc) && decide (len / sc ≤ 64))
theorem tab_is {sc : Int} {n : Nat} (h : 0 ≤ sc) : Sh70.isTableSize sc.toNat (n / sc.toNat) = tabOk sc (n : Int) := by
  obtain ⟨k, rfl⟩ := Int.eq_ofNat_of_zero_le h
  unfold Sh70.isTableSize Sh70.isBetween tabOk
  rw [show ((k : Int)).toNat = k from rfl]
  have e1 : decide (1 ≤ k) = decide ((1 : Int) ≤ (k : Int)) := decide_eq_decide.mpr (by omega)
  have e2 : decide (k ≤ 32) = decide ((k : Int) ≤ 32) := decide_eq_decide.mpr (by omega)
  have e0 : (n : Int) / (k : Int) = ((n / k : Nat) : Int) := (Int.natCast_ediv n k).symm
  have e3 : decide (1 ≤ n / k) = decide ((1 : Int) ≤ (n : Int) / (k : Int)) := decide_eq_decide.mpr (by rw [e0]; omega)
  have e4 : decide (n / k ≤ 64) = decide ((n : Int) / (k : Int) ≤ 64) := decide_eq_decide.mpr (by rw [e0]; omega)
  rw [e1, e2, e3, e4]
/-- one item more -/
theorem take_more {α : Type} : ∀ {l : List α} {i : Nat} {x : α}, l[i]? = some x → l.take (i + 1) = l.take i ++ [x]
  | [], i, x, h => by simp at h
  | a :: l, 0, x, h => by
    have e : a = x := Option.some.inj h
    subst e
    rfl
  | a :: l, i + 1, x, h => by
    have ih := take_more (l := l) (i := i) (x := x) h
    show a :: l.take (i + 1) = a :: l.take i ++ [x]
    rw [ih]
    rfl
theorem map_get {α β : Type} {f : α → β} {l : List α} {i : Nat} {y : β} (h : (l.map f)[i]? = some y) : ∃ x, l[i]? = some x ∧ y = f x := by
  rw [List.getElem?_map] at h
  cases e : l[i]? with
  | none =>
    rw [e] at h
    cases h
  | some x =>
    rw [e] at h
    exact ⟨x, rfl, (Option.some.inj h).symm⟩
end LC
namespace LC
/-! ### parabola_minimum, phase -/
section
variable {time step a b c : Int}
def paraI (time step a b c : Int) : Int := if 0 < a - 2 * b + c then time + (2 * (step * (a - c)) + 2 * (a - 2 * b + c)) / (2 * (2 * (a - 2 * b + c))) else time
theorem para_is (time step a b c : Int) : Sh70.parabolaMinimum time step a b c = paraI time step a b c := by
  unfold Sh70.parabolaMinimum paraI
  by_cases h : a - 2 * b + c ≤ 0
  · rw [if_pos h, if_neg (by omega)]
  · rw [if_neg h, if_pos (by omega)]
    rfl
theorem step_args (h0 : 0 ≤ step) : Sh70.isBetween step.toNat 1 65536 = (decide (1 ≤ step) && decide (step ≤ 65536)) := by
  rw [Bool.eq_iff_iff]
  unfold Sh70.isBetween
  simp only [Bool.and_eq_true, decide_eq_true_eq]
  omega
theorem para_bad (h0 : 0 ≤ step) (h : (decide (1 ≤ step) && decide (step ≤ 65536)) = false) : PySh70.parabola_minimum time step a b c = [-2] := by
  show (match (some (if Sh70.isBetween step.toNat 1 65536 = true then Sh70.Call.parabolaMinimum (Sh70Neutral.toInt32 time.toNat) (step.toNat : Int) (Sh70Neutral.toInt32 a.toNat) (Sh70Neutral.toInt32 b.toNat) (Sh70Neutral.toInt32 c.toNat) else .invalid) : Option Sh70.Call) with | none => [] | some parsed => Sh70Neutral.flatten (Sh70.answer parsed)) = _
  rw [step_args h0, h]
  rfl
theorem para_ok (ht : 0 ≤ time) (h0 : 0 ≤ step) (ha : 0 ≤ a) (hb : 0 ≤ b) (hc : 0 ≤ c) (h : (decide (1 ≤ step) && decide (step ≤ 65536)) = true) : PySh70.parabola_minimum time step a b c = [0] ++ [paraI (sg time) step (sg a) (sg b) (sg c)].map fun z => z % 18446744073709551616 := by
  show (match (some (if Sh70.isBetween step.toNat 1 65536 = true then Sh70.Call.parabolaMinimum (Sh70Neutral.toInt32 time.toNat) (step.toNat : Int) (Sh70Neutral.toInt32 a.toNat) (Sh70Neutral.toInt32 b.toNat) (Sh70Neutral.toInt32 c.toNat) else .invalid) : Option Sh70.Call) with | none => [] | some parsed => Sh70Neutral.flatten (Sh70.answer parsed)) = _
  rw [step_args h0, h, if_pos rfl, toInt32_sg ht, toInt32_sg ha, toInt32_sg hb, toInt32_sg hc, Int.toNat_of_nonneg h0]
  show [(0 : Int), ((Sh70.word64 (Sh70.parabolaMinimum (sg time) step (sg a) (sg b) (sg c)) : Nat) : Int)] = _
  rw [w64, para_is]
  rfl
theorem phase_cast {p t : Int} (hp : 0 < p) (ht : 0 ≤ t) : ((Sh70.phase p.toNat t.toNat : Nat) : Int) = (65536 * (t % p)) / p := by
  obtain ⟨k, rfl⟩ := Int.eq_ofNat_of_zero_le (show 0 ≤ p by omega)
  obtain ⟨m, rfl⟩ := Int.eq_ofNat_of_zero_le ht
  show ((65536 * (m % k) / k : Nat) : Int) = _
  rw [Int.natCast_ediv, Int.natCast_mul, Int.natCast_emod]
  rfl
theorem phase_ok {p t : Int} (hp : 0 ≤ p) (ht : 0 ≤ t) : PySh70.phase p t = [(65536 * (t % (if p > 1 then p else 1))) / (if p > 1 then p else 1)] := by
  show [((Sh70.phase (max 1 p.toNat) t.toNat : Nat) : Int)] = _
  have e : (max 1 p.toNat) = (if p > 1 then p else 1).toNat := by
    split <;> omega
  rw [e, phase_cast (by split <;> omega) ht]
end
end LC
set_option Elab.async false
set_option maxRecDepth 100000
set_option maxHeartbeats 2000000
namespace LC
open PySem PySem.Spec PyProof.Rows L2 Evl
/-! ### whole numbers of the module's top -/
def GI (mg : Str → Option Value) (x : Str) (n : Int) : Prop := ∃ t, mg x = some (.int n t)
theorem pe_gi {X : Cx} {x : Str} {n : Int} {pos : Pos} (hg : Gl X x) (h : GI X.mg x n) (hd : (x == ("__debug__" : Str)) = false := by decide) : PE X (.Name x pos) (tC (.int n)) := by
  obtain ⟨t, e⟩ := h
  exact pe_glob hg e ⟨t, rfl⟩ hd
theorem small {n m : Nat} (h : Nat.ble n m = true := by rfl) : n ≤ m := Nat.le_of_ble_eq_true h
theorem nt {b : Bool} (h : (!b) = true) : b = false := by
  cases b with
  | true => cases h
  | false => rfl
theorem nf {b : Bool} (h : (!b) = false) : b = true := by
  cases b with
  | true => rfl
  | false => cases h
/-! ### what evaluates to a value of which P holds -/
def EvP (te : TE) (σ : L2.St) (H : Hp) (P : V → Hp → Prop) : Prop := ∀ H1, Ex H H1 → ∀ Q : VK, (∀ v H2, Ex H1 H2 → P v H2 → Q v H2) → te σ H1 Q
/-- what stays while all that was known stays -/
def Stays (P : V → Hp → Prop) : Prop := ∀ v H H', Ex H H' → P v H → P v H'
def RetP (P : V → Hp → Prop) (H : Hp) (Q : VK) : Prop := ∀ v H2, Ex H H2 → P v H2 → Q v H2
section
variable {K : PySem.W.Frag} {σ : L2.St} {H H' : Hp} {ta tb te tx : TE} {t u : TT} {x y z v : V} {r : R2} {P : V → Hp → Prop}
theorem EvP.mono (e : Ex H H') (h : EvP te σ H P) : EvP te σ H' P := fun H1 a Q q => h H1 (e.trans a) Q q
theorem ep_imp {P' : V → Hp → Prop} (h : EvP te σ H P) (k : ∀ v H', Ex H H' → P v H' → P' v H') : EvP te σ H P' := fun H1 e Q q => h H1 e Q fun v H2 e2 p => q v H2 e2 (k v H2 (e.trans e2) p)
theorem ep_v (h : Ev te σ H v) : EvP te σ H fun z _ => z = v := fun H1 e Q q => h H1 e Q fun H2 e2 => q v H2 e2 rfl
theorem ep_l {xs : List V} (h : EvL te σ H xs) : EvP te σ H fun z H' => ∃ p, z = .ref p ∧ H' p = some (.lst xs) := fun H1 e Q q => h H1 e Q fun p H2 _ e2 hp => q (.ref p) H2 e2 ⟨p, rfl, hp⟩
/-- an argument of which P holds, then a call on values -/
theorem ep_cb1 {r : List V → Hp → VK → Prop} {P' : V → Hp → Prop} (h : EvP te σ H P) (hr : ∀ v H1, Ex H H1 → P v H1 → ∀ Q : VK, (∀ z H2, Ex H1 H2 → P' z H2 → Q z H2) → r [v] H1 Q) : EvP (tCB r (tCons te tNil)) σ H P' := fun H1 e Q q =>
  h H1 e _ fun v H2 e2 p => hr v H2 (e.trans e2) p Q fun z H3 e3 p' => q z H3 (e2.trans e3) p'
theorem ev_cb1 {r : List V → Hp → VK → Prop} (h : EvP te σ H P) (hr : ∀ v H1, Ex H H1 → P v H1 → ∀ Q : VK, (∀ H2, Ex H1 H2 → Q z H2) → r [v] H1 Q) : Ev (tCB r (tCons te tNil)) σ H z := fun H1 e Q q =>
  h H1 e _ fun v H2 e2 p => hr v H2 (e.trans e2) p Q fun H3 e3 => q H3 (e2.trans e3)
/-- a def's call on one argument of which P holds -/
theorem ev_call1 {sp : Sp} {E : XK} (h : EvP te σ H P) (hr : ∀ v H1, Ex H H1 → P v H1 → ∀ Q : VK, RetV z H1 Q → sp [v] H1 Q E) : Ev (tCall sp [] E (tCons te tNil)) σ H z := fun H1 e Q q =>
  h H1 e _ fun v H2 e2 p => hr v H2 (e.trans e2) p Q fun H3 e3 => q H3 (e2.trans e3)
theorem el_call1 {sp : Sp} {E : XK} {xs : List V} (h : EvP te σ H P) (hr : ∀ v H1, Ex H H1 → P v H1 → ∀ Q : VK, RetL xs H1 Q → sp [v] H1 Q E) : EvL (tCall sp [] E (tCons te tNil)) σ H xs := fun H1 e Q q =>
  h H1 e _ fun v H2 e2 p => hr v H2 (e.trans e2) p Q fun q2 H3 hp e3 h3 => q q2 H3 (fresh_back e2 hp) (e2.trans e3) h3
/-- a def's call on values -/
theorem ev_callA {sp : Sp} {E : XK} {ta : TA} {vs : List V} (h : EvA ta σ H vs) (hr : ∀ H1, Ex H H1 → ∀ Q : VK, RetV z H1 Q → sp vs H1 Q E) : Ev (tCall sp [] E ta) σ H z := fun H1 e Q q =>
  h H1 e _ fun H2 e2 => by
    have k := hr H2 (e.trans e2) Q fun H3 e3 => q H3 (e2.trans e3)
    show sp (vs ++ []) H2 Q E
    rw [List.append_nil]
    exact k
theorem el_callA {sp : Sp} {E : XK} {ta : TA} {vs xs : List V} (h : EvA ta σ H vs) (hr : ∀ H1, Ex H H1 → ∀ Q : VK, RetL xs H1 Q → sp vs H1 Q E) : EvL (tCall sp [] E ta) σ H xs := fun H1 e Q q =>
  h H1 e _ fun H2 e2 => by
    have k := hr H2 (e.trans e2) Q fun q2 H3 hp e3 h3 => q q2 H3 (fresh_back e2 hp) (e2.trans e3) h3
    show sp (vs ++ []) H2 Q E
    rw [List.append_nil]
    exact k
theorem ep_callA {sp : Sp} {E : XK} {ta : TA} {vs : List V} {P' : V → Hp → Prop} (h : EvA ta σ H vs) (hr : ∀ H1, Ex H H1 → ∀ Q : VK, RetP P' H1 Q → sp vs H1 Q E) : EvP (tCall sp [] E ta) σ H P' := fun H1 e Q q =>
  h H1 e _ fun H2 e2 => by
    have k := hr H2 (e.trans e2) Q fun v H3 e3 p => q v H3 (e2.trans e3) p
    show sp (vs ++ []) H2 Q E
    rw [List.append_nil]
    exact k
/-! ### statements -/
variable {D : Ends} {tu tw tz : TS}
theorem s_retP (h : EvP te σ H P) (k : RetP P H D.rt) : tRet te D σ H := h H (Ex.refl H) _ k
theorem q_asgP {i : Nat} (h : EvP te σ H P) (k : ∀ v H1, Ex H H1 → P v H1 → tz D (σ.set i (some v)) H1) : tSeq (tAsg te (gName i)) tz D σ H := h H (Ex.refl H) _ k
theorem retP_mono {Q : VK} (k : RetP P H Q) (e : Ex H H') : RetP P H' Q := fun v H2 e2 p => k v H2 (e.trans e2) p
theorem retV_mono {Q : VK} (k : RetV v H Q) (e : Ex H H') : RetV v H' Q := fun H2 e2 => k H2 (e.trans e2)
theorem retL_mono {Q : VK} {xs : List V} (k : RetL xs H Q) (e : Ex H H') : RetL xs H' Q := fun p H2 hp e2 h => k p H2 (fresh_back e hp) (e.trans e2) h
/-! ### a list of whole numbers, made turn by turn -/
theorem given_all (n : Nat) (g : Nat → V) : given n (fun _ => true) g = (List.range n).map g := by
  unfold given
  rw [List.filter_eq_self.mpr fun _ _ => rfl]
theorem et_yes : EvT tYes σ H true := fun H1 _ _ q => q H1 (Ex.refl H1)
/-- [e for x in xs] over a list of whole numbers, each a whole number by g -/
theorem el_ints {a : Addr} {ns : List Int} {tl : TE} {j : Nat} {vs : List Nat} (g : Int → Int) (h : Ev tl σ H (.ref a)) (hx : SqL K H a (ns.map V.int)) (hz : ns.length ≤ 40000) (hw : ∀ x, wipe ((wipe σ vs).set j (some x)) vs = wipe σ vs)
    (he : ∀ n H1, Ex H H1 → n ∈ ns → Ev te ((wipe σ vs).set j (some (.int n))) H1 (.int (g n))) : EvL (tLc (iList K tl) (gName j) tYes te vs) σ H ((ns.map g).map V.int) := by
  have k := el_lcL (K := K) (te := te) (t := tYes) (vs := vs) (j := j) (fun _ => true) (fun i => V.int (g (ns.getD i 0))) h hx (by rw [List.length_map]; exact hz) hw (fun _ _ _ _ _ => et_yes) fun i x H1 e hi _ => by
    obtain ⟨n, hn, rfl⟩ : ∃ n, ns[i]? = some n ∧ x = V.int n := by
      rw [List.getElem?_map] at hi
      cases q : ns[i]? with
      | none =>
        rw [q] at hi
        cases hi
      | some n =>
        rw [q] at hi
        exact ⟨n, rfl, (Option.some.inj hi).symm⟩
    have q : ns.getD i 0 = n := by
      rw [List.getD_eq_getElem?_getD, hn]
      rfl
    rw [q]
    exact he n H1 e (List.mem_of_getElem? hn)
  rw [given_all, List.length_map] at k
  have e : (List.range ns.length).map (fun i => V.int (g (ns.getD i 0))) = (ns.map g).map V.int := by
    apply List.ext_getElem?
    intro i
    rw [List.getElem?_map, List.getElem?_map, List.getElem?_map]
    by_cases c : i < ns.length
    · rw [List.getElem?_range c, List.getElem?_eq_getElem c]
      show some (V.int (g (ns.getD i 0))) = some (V.int (g ns[i]))
      rw [List.getD_eq_getElem?_getD, List.getElem?_eq_getElem c]
      rfl
    · rw [List.getElem?_eq_none (by rw [List.length_range]; omega), List.getElem?_eq_none (by omega)]
      rfl
  rw [e] at k
  exact k
/-! ### chains, sums of lists, calls on a new list -/
theorem ev_chain {r' : R2} {tc : TE} {k1 k2 : Bool} (ha : Ev ta σ H x) (hb : Ev tb σ H y) (h1 : RV r x y H (.bl k1)) (hc : k1 = true → Ev tc σ H z) (h2 : k1 = true → RV r' y z H (.bl k2)) : Ev (tChain r r' ta tb tc) σ H (.bl (k1 && k2)) := fun H1 e Q q =>
  ha H1 e _ fun H2 e2 => hb H2 (e.trans e2) _ fun H3 e3 => h1 H3 ((e.trans e2).trans e3) _ fun H4 e4 => ⟨k1, rfl, by
    cases k1 with
    | true =>
      show tc σ H4 fun w' H5 => r' y w' H5 Q
      exact hc rfl H4 (((e.trans e2).trans e3).trans e4) _ fun H5 e5 => h2 rfl H5 ((((e.trans e2).trans e3).trans e4).trans e5) Q fun H6 e6 => q H6 ((((e2.trans e3).trans e4).trans e5).trans e6)
    | false =>
      show Q (.bl false) H4
      exact q H4 ((e2.trans e3).trans e4)⟩
/-- a <= b <= c of whole numbers -/
theorem ev_between {tc : TE} {i j k : Int} (ha : Ev ta σ H (.int i)) (hb : Ev tb σ H (.int j)) (hc : Ev tc σ H (.int k)) : Ev (tChain (rI0 fun i j => .bl (decide (i ≤ j))) (rI0 fun i j => .bl (decide (i ≤ j))) ta tb tc) σ H (.bl (decide (i ≤ j) && decide (j ≤ k))) :=
  ev_chain ha hb rv_I0 (fun _ => hc) (fun _ => rv_I0)
theorem el_cat {xs ys : List V} (ha : EvL ta σ H xs) (hb : EvL tb σ H ys) (hl : xs.length + ys.length ≤ 100000) : EvL (tOp rCat ta tb) σ H (xs ++ ys) := fun H1 e Q q =>
  ha H1 e _ fun p H2 hp e2 h2 => hb H2 (e.trans e2) _ fun p' H3 _ e3 h3 => ⟨p, p', xs, ys, rfl, rfl, e3 p _ h2, h3, sz_of hl, fun d hd =>
    q d _ (fresh_back (e2.trans e3) hd) ((e2.trans e3).trans (Ex.new hd)) upd_same⟩
/-- a def called on a new list, handing back a new list | a value -/
theorem el_callL {sp : Sp} {E : XK} {xs ys : List V} (h : EvL te σ H xs) (hr : ∀ p H1, Ex H H1 → H1 p = some (.lst xs) → ∀ Q : VK, RetL ys H1 Q → sp [.ref p] H1 Q E) : EvL (tCall sp [] E (tCons te tNil)) σ H ys := fun H1 e Q q =>
  h H1 e _ fun p H2 _ e2 hp => hr p H2 (e.trans e2) hp Q fun p' H3 hp' e3 h3 => q p' H3 (fresh_back e2 hp') (e2.trans e3) h3
theorem ev_callL {sp : Sp} {E : XK} {xs : List V} (h : EvL te σ H xs) (hr : ∀ p H1, Ex H H1 → H1 p = some (.lst xs) → ∀ Q : VK, RetV z H1 Q → sp [.ref p] H1 Q E) : Ev (tCall sp [] E (tCons te tNil)) σ H z := fun H1 e Q q =>
  h H1 e _ fun p H2 _ e2 hp => hr p H2 (e.trans e2) hp Q fun H3 e3 => q H3 (e2.trans e3)
theorem sq_new {p : Addr} {xs : List V} (h : H p = some (.lst xs)) : SqL K H p xs := .inl (.inl h)
/-- (a, b, ..) = a new list: the names hold its items -/
theorem q_unl {n : Nat} {t : TGs} {xs : List V} (h : EvL te σ H xs) (hn : xs.length = n) (k : ∀ H1, Ex H H1 → t xs σ H1 fun σ' H' => tz D σ' H') : tSeq (tAsg te (gUnl K n t)) tz D σ H := h H (Ex.refl H) _ fun p H1 _ e hp => ⟨p, xs, rfl, .inl (.inl hp), hn, k H1 e⟩
theorem int1 {z : Int} : ([z].map V.int) = [V.int z] := rfl
end
end LC
namespace LC
open PySem PySem.Spec PyProof.Rows L2 Evl
open PySem.W (WData Codec)
/-! ### the request -/
section
variable {K : PySem.W.Frag} {H : Hp} {x : V} {xs : List V}
theorem dw_int {i : Int} (h : Dw K H x (.int i)) : x = .int i := by
  cases h
  rfl
theorem dw_list {ns : List Int} (h : Dw K H x (.list (ns.map WData.int))) : ∃ a, x = .ref a ∧ SqL K H a (ns.map V.int) := by
  cases h with
  | lst hs ha =>
    rw [ints_dw ns _ ha] at hs
    exact ⟨_, rfl, hs⟩
theorem dw_cons {d : WData} {ds : List WData} (h : DwAll K H xs (d :: ds)) : ∃ x r, xs = x :: r ∧ Dw K H x d ∧ DwAll K H r ds := by
  cases h with
  | cons h1 h2 => exact ⟨_, _, rfl, h1, h2⟩
theorem dw_nil (h : DwAll K H xs []) : xs = [] := by
  cases h
  rfl
/-- the answer: a new list of whole numbers -/
theorem dw_ans {ns : List Int} {p : Addr} {H' : Hp} (h : H' p = some (.lst (ns.map V.int))) : Dw K H' (.ref p) (.list (ns.map WData.int)) := .lst (L2.SqL.of h) (L2.dw_ints _)
/-- a whole number of 32 bits -/
def u32 (n : Int) : Prop := 0 ≤ n ∧ n ≤ 4294967295
theorem u32_of {n : Int} (h : Codec.inInt 0 4294967295 n = true) : u32 n := Codec.inInt_iff.mp h
/-- a list of such -/
def u32s (most : Nat) (ns : List Int) : Prop := ns.length ≤ most ∧ ∀ n ∈ ns, u32 n
theorem u32s_of {most : Nat} {ns : List Int} (h : (Codec.inLen 0 most ns && ns.all (Codec.inInt 0 4294967295)) = true) : u32s most ns := by
  rw [Bool.and_eq_true] at h
  exact ⟨(Codec.inNat_iff.mp h.1).2, fun n hn => u32_of (List.all_eq_true.mp h.2 n hn)⟩
end
end LC
set_option Elab.async false
set_option maxRecDepth 100000
set_option maxHeartbeats 2000000
namespace LC
open PySem PySem.Spec PyProof.Rows L2 Evl
/-- the i-th statement of the program's text -/
def top (i : Nat) : Stmt := PySem.Challenge.pw_lightcurves_s09_parabola_minimum.main.body.getD i (.Pass ⟨0, 0, 0, 0⟩)
section
variable {P : Program} {w : World} {K : PySem.W.Frag} {mg : Str → Option Value} {base : Heap}
/-! ### signed -/
abbrev sSigned : Stmt := top 3
theorem scSigned : FnScope ["number"] ["number"] (defScope sSigned) := ⟨rfl, rfl, rfl, by decide +kernel, rfl, by decide +kernel, by decide +kernel⟩
def spSigned : Sp := fun vs H Q _ => ∃ n : Int, vs = [.int n] ∧ RetV (.int (sg n)) H Q
theorem ok_signed {f : Addr} {fd : FuncData} (F : Fun K "signed" "signed" sSigned f fd) (gS : GI mg "SMALL" 4294967296) : FnOk P w K mg base CX0 1 f fd ["number"] spSigned := by
  refine F.ok scSigned (fun vs H Q E h => ?_) (fun cdv A outer s H vs Q E hr h => ?_)
  · obtain ⟨n, rfl, _⟩ := h
    rfl
  · obtain ⟨n, rfl, k⟩ := h
    refine ⟨_, pss_one (ps_ret (pe_ifExp (pt_cmpR op_ge (pv 0) (pe_op op_fdiv (pe_gi rfl gS) pe_int) (nomark _)) (pe_op op_sub (pv 0) (pe_gi rfl gS)) (pv 0))), ?_⟩
    refine s_ret (v := .int (sg n)) (ev_if (et_test (ev_op (ev_var rfl) (ev_op ev_c ev_c (rv_I ⟨by decide, by decide⟩)) rv_I0)) (fun c => ?_) (fun c => ?_)) k
    · have c' : (4294967296 / 2 : Int) ≤ n := of_decide_eq_true c
      exact ev_is (ev_op (ev_var rfl) ev_c rv_I0) (congrArg V.int (by unfold sg; rw [if_pos (by omega)]))
    · have c' : ¬ (4294967296 / 2 : Int) ≤ n := of_decide_eq_false c
      exact ev_is (ev_var rfl) (congrArg V.int (by unfold sg; rw [if_neg (by omega)]))
/-! ### signed_list -/
abbrev sSignedList : Stmt := top 9
theorem scSignedList : FnScope ["numbers", "number"] ["numbers"] (defScope sSignedList) := ⟨rfl, rfl, rfl, by decide +kernel, rfl, by decide +kernel, by decide +kernel⟩
def spSignedList (K : PySem.W.Frag) : Sp := fun vs H Q _ => ∃ (a : Addr) (ns : List Int), vs = [.ref a] ∧ SqL K H a (ns.map V.int) ∧ ns.length ≤ 40000 ∧ RetL ((ns.map sg).map V.int) H Q
theorem ok_signed_list {f fS : Addr} {fd fdS : FuncData} (F : Fun K "signed_list" "signed_list" sSignedList f fd) (FS : Fun K "signed" "signed" sSigned fS fdS) (bS : Binds K fdS ["number"] []) (mS : mg "signed" = some (.ref fS)) (gS : GI mg "SMALL" 4294967296) : FnOk P w K mg base CX0 2 f fd ["numbers"] (spSignedList K) := by
  have GS : FnOk P w K mg base CX0 1 fS fdS ["number"] spSigned := ok_signed FS gS
  refine F.ok scSignedList (fun vs H Q E h => ?_) (fun cdv A outer s H vs Q E hr h => ?_)
  · obtain ⟨a, ns, rfl, _⟩ := h
    rfl
  · obtain ⟨a, ns, rfl, hS, hl, k⟩ := h
    refine ⟨_, pss_one (ps_ret (pe_lc (own := [("number", 1)]) (g := gName 1) (tt := tYes) rfl scSignedList.nd (pi_list (pv 0)) (blkOk_by (own := [("number", 1)]) (N := ["numbers", "number"]) (sc := defScope sSignedList) (by decide +kernel))
      (fun _ _ _ _ _ => pg_name (i := 1) scSignedList.nd rfl (Or.inl rfl)) (fun _ _ _ _ _ => pts_nil) (fun _ _ _ _ _ => pe_call GS hr (by rfl) mS FS.kp bS .nil pass0 (pa_cons (pv 1) pa_nil)))), ?_⟩
    exact s_retL (el_ints sg (ev_var rfl) hS hl (fun _ => rfl) fun n H1 e _ => ev_callA (ea_cons (ev_var rfl) ea_nil) fun H2 e2 Q q => ⟨n, rfl, q⟩) k
/-! ### great_told -/
abbrev sGreatTold : Stmt := top 4
theorem scGreatTold : FnScope ["numbers", "number"] ["numbers"] (defScope sGreatTold) := ⟨rfl, rfl, rfl, by decide +kernel, rfl, by decide +kernel, by decide +kernel⟩
def spGreatTold (K : PySem.W.Frag) : Sp := fun vs H Q _ => ∃ (a : Addr) (ns : List Int), vs = [.ref a] ∧ SqL K H a (ns.map V.int) ∧ ns.length ≤ 40000 ∧ RetL ((ns.map fun z => z % 18446744073709551616).map V.int) H Q
theorem ok_great_told {f : Addr} {fd : FuncData} (F : Fun K "great_told" "great_told" sGreatTold f fd) (gG : GI mg "GREAT" 18446744073709551616) : FnOk P w K mg base CX0 1 f fd ["numbers"] (spGreatTold K) := by
  refine F.ok scGreatTold (fun vs H Q E h => ?_) (fun cdv A outer s H vs Q E hr h => ?_)
  · obtain ⟨a, ns, rfl, _⟩ := h
    rfl
  · obtain ⟨a, ns, rfl, hS, hl, k⟩ := h
    refine ⟨_, pss_one (ps_ret (pe_lc (own := [("number", 1)]) (g := gName 1) (tt := tYes) rfl scGreatTold.nd (pi_list (pv 0)) (blkOk_by (own := [("number", 1)]) (N := ["numbers", "number"]) (sc := defScope sGreatTold) (by decide +kernel))
      (fun _ _ _ _ _ => pg_name (i := 1) scGreatTold.nd rfl (Or.inl rfl)) (fun _ _ _ _ _ => pts_nil) (fun _ _ _ _ _ => pe_op op_mod (pv 1) (pe_gi rfl gG)))), ?_⟩
    exact s_retL (el_ints (fun z => z % 18446744073709551616) (ev_var rfl) hS hl (fun _ => rfl) fun n H1 e _ => ev_op (ev_var rfl) ev_c (rv_I (by decide))) k
/-! ### round_div -/
abbrev sRoundDiv : Stmt := top 5
theorem scRoundDiv : FnScope ["upper", "lower"] ["upper", "lower"] (defScope sRoundDiv) := ⟨rfl, rfl, rfl, by decide +kernel, rfl, by decide +kernel, by decide +kernel⟩
def spRoundDiv : Sp := fun vs H Q _ => ∃ u l : Int, vs = [.int u, .int l] ∧ 0 < l ∧ l < 4611686018427387904 ∧ RetV (.int ((2 * u + l) / (2 * l))) H Q
theorem ok_round_div {f : Addr} {fd : FuncData} (F : Fun K "round_div" "round_div" sRoundDiv f fd) : FnOk P w K mg base CX0 1 f fd ["upper", "lower"] spRoundDiv := by
  refine F.ok scRoundDiv (fun vs H Q E h => ?_) (fun cdv A outer s H vs Q E hr h => ?_)
  · obtain ⟨u, l, rfl, _⟩ := h
    rfl
  · obtain ⟨u, l, rfl, h0, h1, k⟩ := h
    refine ⟨_, pss_one (ps_ret (pe_op op_fdivW (pe_op op_add (pe_op op_mul pe_int (pv 0)) (pv 1)) (pe_op op_mul pe_int (pv 1)))), ?_⟩
    exact s_ret (ev_op (ev_op (ev_op ev_c (ev_var rfl) (rv_I (.inl ⟨by decide, by decide⟩))) (ev_var rfl) rv_I0) (ev_op ev_c (ev_var rfl) (rv_I (.inl ⟨by decide, by decide⟩))) (rv_I (wide_div (b := 64) (by omega) (by omega) (by decide) (by decide)))) k
/-! ### parabola_minimum -/
abbrev sPara : Stmt := top 10
theorem scPara : FnScope ["time", "step", "a", "b", "c", "middle", "first", "second", "third", "bend"] ["time", "step", "a", "b", "c"] (defScope sPara) := ⟨rfl, rfl, rfl, by decide +kernel, rfl, by decide +kernel, by decide +kernel⟩
theorem sg_bound {n : Int} (h : 0 ≤ n ∧ n ≤ 4294967295) : -2147483648 ≤ sg n ∧ sg n ≤ 2147483647 := by
  unfold sg
  split <;> omega
def spPara : Sp := fun vs H Q _ => ∃ t st a b c : Int, vs = [.int t, .int st, .int a, .int b, .int c] ∧ u32 t ∧ u32 st ∧ u32 a ∧ u32 b ∧ u32 c ∧ RetL ((PySh70.parabola_minimum t st a b c).map V.int) H Q
theorem ok_para {f fS fL fG fR : Addr} {fd fdS fdL fdG fdR : FuncData} (F : Fun K "parabola_minimum" "parabola_minimum" sPara f fd) (FS : Fun K "signed" "signed" sSigned fS fdS) (bS : Binds K fdS ["number"] []) (mS : mg "signed" = some (.ref fS))
    (FL : Fun K "signed_list" "signed_list" sSignedList fL fdL) (bL : Binds K fdL ["numbers"] []) (mL : mg "signed_list" = some (.ref fL)) (FG : Fun K "great_told" "great_told" sGreatTold fG fdG) (bG : Binds K fdG ["numbers"] []) (mG : mg "great_told" = some (.ref fG))
    (FR : Fun K "round_div" "round_div" sRoundDiv fR fdR) (bR : Binds K fdR ["upper", "lower"] []) (mR : mg "round_div" = some (.ref fR)) (gS : GI mg "SMALL" 4294967296) (gG : GI mg "GREAT" 18446744073709551616) (gO : GI mg "OUT_OF_RANGE" (-2)) (gM : GI mg "MOST_STEP" 65536) :
    FnOk P w K mg base CX0 3 f fd ["time", "step", "a", "b", "c"] spPara := by
  have GL : FnOk P w K mg base CX0 2 fL fdL ["numbers"] (spSignedList K) := ok_signed_list FL FS bS mS gS
  have GG : FnOk P w K mg base CX0 1 fG fdG ["numbers"] (spGreatTold K) := ok_great_told FG gG
  have GR : FnOk P w K mg base CX0 1 fR fdR ["upper", "lower"] spRoundDiv := ok_round_div FR
  refine F.ok scPara (fun vs H Q E h => ?_) (fun cdv A outer s H vs Q E hr h => ?_)
  · obtain ⟨t, st, a, b, c, rfl, _⟩ := h
    rfl
  · obtain ⟨t, st, a, b, c, rfl, ht, hst, ha, hb, hc, k⟩ := h
    have hr1 : Room 1 _ := hr.mono (by decide)
    refine ⟨_, pss_cons (ps_if (pt_not (pt_chain op_le op_le pe_int (pv 1) (pe_gi rfl gM))) (pss_one (ps_ret (pe_lst (pa_cons (pe_gi rfl gO) pa_nil)))) pss_nil)
      (pss_cons (ps_asg (pe_call GL hr (by rfl) mL FL.kp bL .nil pass0 (pa_cons (pe_lst (pa_cons (pv 0) (pa_cons (pv 2) (pa_cons (pv 3) (pa_cons (pv 4) pa_nil))))) pa_nil)) (pg_unl rfl (pgs_cons (pg_name (i := 5) scPara.nd rfl (.inl rfl)) (pgs_cons (pg_name (i := 6) scPara.nd rfl (.inl rfl)) (pgs_cons (pg_name (i := 7) scPara.nd rfl (.inl rfl)) (pgs_cons (pg_name (i := 8) scPara.nd rfl (.inl rfl)) pgs_nil))))))
      (pss_cons (ps_set (i := 9) scPara.nd rfl (.inl rfl) (pe_op op_add (pe_op op_sub (pv 6) (pe_op op_mul pe_int (pv 7))) (pv 8)))
      (pss_cons (ps_if (pt_cmpR op_gt (pv 9) pe_int (nomark _)) (pss_one (ps_set (i := 5) scPara.nd rfl (.inl rfl) (pe_op op_add (pv 5) (pe_call GR hr1 (by rfl) mR FR.kp bR .nil pass0 (pa_cons (pe_op op_mul (pv 1) (pe_op op_sub (pv 6) (pv 8))) (pa_cons (pe_op op_mul pe_int (pv 9)) pa_nil)))))) pss_nil)
      (pss_one (ps_ret (pe_op op_cat (pe_lst (pa_cons pe_int pa_nil)) (pe_call GG hr1 (by rfl) mG FG.kp bG .nil pass0 (pa_cons (pe_lst (pa_cons (pv 5) pa_nil)) pa_nil)))))))), ?_⟩
    refine q_when (et_not (et_test (ev_between ev_c (ev_var rfl) ev_c))) (fun c0 H1 e1 => ?_) (fun c0 H1 e1 => ?_)
    · have c1 : (decide (1 ≤ st) && decide (st ≤ 65536)) = false := nt c0
      rw [para_bad hst.1 c1] at k
      exact s_retL (el_lst (ea_cons ev_c ea_nil) (by decide)) (retL_mono k e1)
    · have c1 : (decide (1 ≤ st) && decide (st ≤ 65536)) = true := nf c0
      have c2 : 1 ≤ st ∧ st ≤ 65536 := by simpa using c1
      rw [para_ok ht.1 hst.1 ha.1 hb.1 hc.1 c1] at k
      have bt := sg_bound ht
      have ba := sg_bound ha
      have bb := sg_bound hb
      have bc := sg_bound hc
      refine q_unl (K := K) (n := 4) (xs := [V.int (sg t), V.int (sg a), V.int (sg b), V.int (sg c)]) (el_callL (el_lst (ea_cons (ev_var rfl) (ea_cons (ev_var rfl) (ea_cons (ev_var rfl) (ea_cons (ev_var rfl) ea_nil)))) small) fun p H2 _ hp Q2 q2 => ⟨p, [t, a, b, c], rfl, sq_new hp, small, q2⟩) rfl (fun H2 e2 => ?_)
      refine ⟨_, _, rfl, _, _, rfl, _, _, rfl, _, _, rfl, rfl, ?_⟩
      refine q_asg (v := .int (sg a - 2 * sg b + sg c)) (ev_op (ev_op (ev_var rfl) (ev_op ev_c (ev_var rfl) (rv_I (.inl ⟨by decide, by decide⟩))) rv_I0) (ev_var rfl) rv_I0) fun H3 e3 => ?_
      refine q_ifAsg (v := .int (paraI (sg t) st (sg a) (sg b) (sg c))) (et_test (ev_op (ev_var rfl) ev_c rv_I0)) (fun c3 => ?_) (fun c3 => ?_) (fun H4 e4 => ?_)
      · have c4 : 0 < sg a - 2 * sg b + sg c := of_decide_eq_true c3
        have e0 : paraI (sg t) st (sg a) (sg b) (sg c) = sg t + (2 * (st * (sg a - sg c)) + 2 * (sg a - 2 * sg b + sg c)) / (2 * (2 * (sg a - 2 * sg b + sg c))) := if_pos c4
        rw [e0]
        refine ev_op (ev_var rfl) (ev_callA (ea_cons (ev_op (ev_var rfl) (ev_op (ev_var rfl) (ev_var rfl) rv_I0) (rv_I (.inl ⟨?_, ?_⟩))) (ea_cons (ev_op ev_c (ev_var rfl) (rv_I (.inl ⟨by decide, by decide⟩))) ea_nil)) fun H5 e5 Q5 q5 => ⟨_, _, rfl, ?_, ?_, q5⟩) rv_I0
        all_goals omega
      · have c4 : ¬ 0 < sg a - 2 * sg b + sg c := of_decide_eq_false c3
        rw [show paraI (sg t) st (sg a) (sg b) (sg c) = sg t from if_neg c4]
        rfl
      · refine s_retL (el_cat (el_lst (ea_cons ev_c ea_nil) small) (el_callL (el_lst (ea_cons (ev_var rfl) ea_nil) small) fun p H5 _ hp Q5 q5 => ⟨p, [paraI (sg t) st (sg a) (sg b) (sg c)], rfl, sq_new hp, small, q5⟩) small) ?_
        exact retL_mono k (((e1.trans e2).trans e3).trans e4)
end
/-! ### what the top has written: every address a letter -/
theorem all_mk {P : Program} {w : World} {K : PySem.W.Frag} {h : Heap} {mg : Str → Option Value} {fa f0 f1 f2 f3 f4 : Addr} (X : K.In h) (G : h.Ns mainGlobals mg) (hfa : mg "parabola_minimum" = some (.ref fa))
    {od0 an0 od1 an1 od2 an2 od3 an3 od4 an4 : Option Addr} {sl0 sl1 sl2 sl3 sl4 : Array (Option Value)} {oc0 kV0 dc0 pm0 ct0 cd0 oc1 kV1 dc1 pm1 ct1 cd1 oc2 kV2 dc2 pm2 ct2 cd2 oc3 kV3 dc3 pm3 ct3 cd3 oc4 kV4 dc4 pm4 ct4 cd4 : Value} {t_SMALL t_GREAT t_OUT_OF_RANGE t_MOST_STEP : Tok}
    (a0 : PySem.W.nsIn K mainGlobals "signed" = some (some (.ref f0)))
    (l0 : K.lookup f0 = some ⟨oc0, od0, .func (PySem.W.fnOf "signed" "signed" (defArgs sSigned) (defBody sSigned) (defScope sSigned) .none kV0 dc0 pm0 an0 cd0 ct0), sl0⟩)
    (c0 : PySem.W.codeIn K cd0 "signed" = true)
    (k0 : PySem.W.keepIn K (.ref f0) = true)
    (a1 : PySem.W.nsIn K mainGlobals "great_told" = some (some (.ref f1)))
    (l1 : K.lookup f1 = some ⟨oc1, od1, .func (PySem.W.fnOf "great_told" "great_told" (defArgs sGreatTold) (defBody sGreatTold) (defScope sGreatTold) .none kV1 dc1 pm1 an1 cd1 ct1), sl1⟩)
    (c1 : PySem.W.codeIn K cd1 "great_told" = true)
    (k1 : PySem.W.keepIn K (.ref f1) = true)
    (a2 : PySem.W.nsIn K mainGlobals "round_div" = some (some (.ref f2)))
    (l2 : K.lookup f2 = some ⟨oc2, od2, .func (PySem.W.fnOf "round_div" "round_div" (defArgs sRoundDiv) (defBody sRoundDiv) (defScope sRoundDiv) .none kV2 dc2 pm2 an2 cd2 ct2), sl2⟩)
    (c2 : PySem.W.codeIn K cd2 "round_div" = true)
    (k2 : PySem.W.keepIn K (.ref f2) = true)
    (a3 : PySem.W.nsIn K mainGlobals "signed_list" = some (some (.ref f3)))
    (l3 : K.lookup f3 = some ⟨oc3, od3, .func (PySem.W.fnOf "signed_list" "signed_list" (defArgs sSignedList) (defBody sSignedList) (defScope sSignedList) .none kV3 dc3 pm3 an3 cd3 ct3), sl3⟩)
    (c3 : PySem.W.codeIn K cd3 "signed_list" = true)
    (k3 : PySem.W.keepIn K (.ref f3) = true)
    (a4 : PySem.W.nsIn K mainGlobals "parabola_minimum" = some (some (.ref f4)))
    (l4 : K.lookup f4 = some ⟨oc4, od4, .func (PySem.W.fnOf "parabola_minimum" "parabola_minimum" (defArgs sPara) (defBody sPara) (defScope sPara) .none kV4 dc4 pm4 an4 cd4 ct4), sl4⟩)
    (c4 : PySem.W.codeIn K cd4 "parabola_minimum" = true)
    (k4 : PySem.W.keepIn K (.ref f4) = true)
    (g_SMALL : PySem.W.nsIn K mainGlobals "SMALL" = some (some (.int 4294967296 t_SMALL)))
    (g_GREAT : PySem.W.nsIn K mainGlobals "GREAT" = some (some (.int 18446744073709551616 t_GREAT)))
    (g_OUT_OF_RANGE : PySem.W.nsIn K mainGlobals "OUT_OF_RANGE" = some (some (.int (-2) t_OUT_OF_RANGE)))
    (g_MOST_STEP : PySem.W.nsIn K mainGlobals "MOST_STEP" = some (some (.int 65536 t_MOST_STEP)))
    :
    ∃ fd : FuncData, (∀ (s : Shared) (us : List Value), us.length = (["time", "step", "a", "b", "c"] : List Str).length → BindsTo s fd ⟨us, []⟩ ((["time", "step", "a", "b", "c"] : List Str).zip us)) ∧ ∀ base : Heap, K.In base → base.Ns mainGlobals mg → FnOk P w K mg base CX0 3 fa fd ["time", "step", "a", "b", "c"] spPara := by
  have e := hfa.symm.trans (PySem.W.mg_of X G a4)
  cases e
  have F_signed := fun_mk (st := sSigned) l0 c0 k0
  have b_signed := F_signed.binds (ps := ["number"]) fun _ _ _ _ _ _ us hl => match us, hl with | [_], _ => rfl
  have m_signed := PySem.W.mg_of X G a0
  have F_great_told := fun_mk (st := sGreatTold) l1 c1 k1
  have b_great_told := F_great_told.binds (ps := ["numbers"]) fun _ _ _ _ _ _ us hl => match us, hl with | [_], _ => rfl
  have m_great_told := PySem.W.mg_of X G a1
  have F_round_div := fun_mk (st := sRoundDiv) l2 c2 k2
  have b_round_div := F_round_div.binds (ps := ["upper", "lower"]) fun _ _ _ _ _ _ us hl => match us, hl with | [_, _], _ => rfl
  have m_round_div := PySem.W.mg_of X G a2
  have F_signed_list := fun_mk (st := sSignedList) l3 c3 k3
  have b_signed_list := F_signed_list.binds (ps := ["numbers"]) fun _ _ _ _ _ _ us hl => match us, hl with | [_], _ => rfl
  have m_signed_list := PySem.W.mg_of X G a3
  have F_parabola_minimum := fun_mk (st := sPara) l4 c4 k4
  have b_parabola_minimum := F_parabola_minimum.binds (ps := ["time", "step", "a", "b", "c"]) fun _ _ _ _ _ _ us hl => match us, hl with | [_, _, _, _, _], _ => rfl
  have m_parabola_minimum := PySem.W.mg_of X G a4
  have g_SMALL : GI mg "SMALL" 4294967296 := ⟨_, PySem.W.mg_of X G g_SMALL⟩
  have g_GREAT : GI mg "GREAT" 18446744073709551616 := ⟨_, PySem.W.mg_of X G g_GREAT⟩
  have g_OUT_OF_RANGE : GI mg "OUT_OF_RANGE" (-2) := ⟨_, PySem.W.mg_of X G g_OUT_OF_RANGE⟩
  have g_MOST_STEP : GI mg "MOST_STEP" 65536 := ⟨_, PySem.W.mg_of X G g_MOST_STEP⟩
  exact ⟨PySem.W.fnOf "parabola_minimum" "parabola_minimum" (defArgs sPara) (defBody sPara) (defScope sPara) .none kV4 dc4 pm4 an4 cd4 ct4, fun s us hu => match us, hu with | [_, _, _, _, _], _ => .of_eq rfl, fun base _ _ => ok_para F_parabola_minimum F_signed b_signed m_signed F_signed_list b_signed_list m_signed_list F_great_told b_great_told m_great_told F_round_div b_round_div m_round_div g_SMALL g_GREAT g_OUT_OF_RANGE g_MOST_STEP⟩
end LC
open PySem PySem.W PyProof.Rows
set_option maxRecDepth 100000 in
set_option maxHeartbeats 8000000 in
theorem PySem.Challenge.cw_lightcurves_s09_parabola_minimum_holds : PySem.Challenge.rw_lightcurves_s09_parabola_minimum.Holds := by
  w_on; k_headS; (case hw => exact ⟨[.int 0, .int 1, .int 0, .int 0, .int 0], by decide +kernel, by decide +kernel⟩)
  k_fillS
  refine L2.walk_specK (r := PySem.Challenge.rw_lightcurves_s09_parabola_minimum) (k := 3) (CX := L2.CX0) (ps := ["time", "step", "a", "b", "c"]) (sp := fun K => LC.spPara) (by decide +kernel) rfl rfl ⟨rfl, by decide, by decide⟩ (fun w h Y => PySem.W.kIn_of Y) ?F ?S (fun _ _ _ _ z => z)
  case F =>
    intro w mg fa h Y KX G hmg
    refine' LC.all_mk KX G hmg ?a0 ?l0 ?c0 ?k0 ?a1 ?l1 ?c1 ?k1 ?a2 ?l2 ?c2 ?k2 ?a3 ?l3 ?c3 ?k3 ?a4 ?l4 ?c4 ?k4 ?g_SMALL ?g_GREAT ?g_OUT_OF_RANGE ?g_MOST_STEP
    (case a0 => k_is)
    (case l0 => k_is)
    (case c0 => k_is)
    (case k0 => k_is)
    (case a1 => k_is)
    (case l1 => k_is)
    (case c1 => k_is)
    (case k1 => k_is)
    (case a2 => k_is)
    (case l2 => k_is)
    (case c2 => k_is)
    (case k2 => k_is)
    (case a3 => k_is)
    (case l3 => k_is)
    (case c3 => k_is)
    (case k3 => k_is)
    (case a4 => k_is)
    (case l4 => k_is)
    (case c4 => k_is)
    (case k4 => k_is)
    (case g_SMALL => k_is)
    (case g_GREAT => k_is)
    (case g_OUT_OF_RANGE => k_is)
    (case g_MOST_STEP => k_is)
  case S =>
    intro K H xs a hO hwi hask hx
    obtain ⟨t, st, v, b, c, u⟩ := a
    obtain ⟨x0, r0, rfl, d0, hx⟩ := LC.dw_cons hx
    obtain ⟨x1, r1, rfl, d1, hx⟩ := LC.dw_cons hx
    obtain ⟨x2, r2, rfl, d2, hx⟩ := LC.dw_cons hx
    obtain ⟨x3, r3, rfl, d3, hx⟩ := LC.dw_cons hx
    obtain ⟨x4, r4, rfl, d4, hx⟩ := LC.dw_cons hx
    cases LC.dw_nil hx
    cases LC.dw_int d0
    cases LC.dw_int d1
    cases LC.dw_int d2
    cases LC.dw_int d3
    cases LC.dw_int d4
    have q : (Codec.inInt 0 4294967295 t && (Codec.inInt 0 4294967295 st && (Codec.inInt 0 4294967295 v && (Codec.inInt 0 4294967295 b && (Codec.inInt 0 4294967295 c && true))))) = true := hwi
    have q0 := q
    obtain ⟨w_t, q0⟩ := Bool.and_eq_true_iff.mp q0
    have u_t := LC.u32_of w_t
    obtain ⟨w_st, q0⟩ := Bool.and_eq_true_iff.mp q0
    have u_st := LC.u32_of w_st
    obtain ⟨w_v, q0⟩ := Bool.and_eq_true_iff.mp q0
    have u_v := LC.u32_of w_v
    obtain ⟨w_b, q0⟩ := Bool.and_eq_true_iff.mp q0
    have u_b := LC.u32_of w_b
    obtain ⟨w_c, q0⟩ := Bool.and_eq_true_iff.mp q0
    have u_c := LC.u32_of w_c
    exact ⟨t, st, v, b, c, rfl, u_t, u_st, u_v, u_b, u_c, fun p H2 _ _ hp => LC.dw_ans hp⟩
