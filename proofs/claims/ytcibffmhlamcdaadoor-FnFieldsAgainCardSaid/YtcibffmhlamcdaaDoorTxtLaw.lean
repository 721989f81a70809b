/-
  Plain laws of decimal numerals, hexadecimal digits and fields, no program in sight. Conditions: none.
-/
import Derived.Lib.Atoi
import Derived.Lib.ItoaNum
import Derived.Lib.HexFns2
import Derived.Lib.Fields
namespace Go.Proofs.YtcibffmhlamcdaaDoor
set_option linter.unusedVariables false

/-! ### Decimal numerals -/
theorem digit_byte (d : Nat) (h : d < 10) : (UInt8.ofNat (48 + d)).toNat = 48 + d := by
  rw [UInt8.toNat_ofNat']
  omega
theorem digitVal_ofNat (d : Nat) (h : d < 10) : Lib.digitVal (UInt8.ofNat (48 + d)) = some d := by
  unfold Lib.digitVal
  rw [digit_byte d h, if_pos (by omega)]
  congr 1
  omega
theorem decFrom_append : ∀ (l r : List UInt8) (acc : Nat), Lib.decFrom acc (l ++ r) = (Lib.decFrom acc l).bind fun m => Lib.decFrom m r
  | [], r, acc => rfl
  | b :: l, r, acc => by
    have e : ∀ (m : List UInt8), Lib.decFrom acc (b :: m) = (match Lib.digitVal b with | some d => Lib.decFrom (acc * 10 + d) m | none => none) := fun _ => rfl
    rw [List.cons_append, e, e]
    cases Lib.digitVal b with
    | none => rfl
    | some d => exact decFrom_append l r _
theorem decFrom_one (acc d : Nat) (h : d < 10) : Lib.decFrom acc [UInt8.ofNat (48 + d)] = some (acc * 10 + d) := by
  unfold Lib.decFrom
  rw [digitVal_ofNat d h]
  rfl
theorem decDigits_more {u : Nat} (h : ¬ u < 10) : Lib.decDigits u = Lib.decDigits (u / 10) ++ [UInt8.ofNat (48 + u % 10)] := by
  rw [Lib.decDigits, dif_neg h]
theorem decFrom_digits (u : Nat) : Lib.decFrom 0 (Lib.decDigits u) = some u := by
  induction u using Nat.strongRecOn with
  | _ u ih =>
    by_cases h : u < 10
    · rw [Lib.decDigits_one h, decFrom_one 0 u h]
      congr 1
      omega
    · rw [decDigits_more h, decFrom_append, ih (u / 10) (by omega)]
      show Lib.decFrom (u / 10) _ = _
      rw [decFrom_one _ _ (by omega)]
      congr 1
      omega
/-- The digits of a number, none of 0. -/
def digs (u : Nat) : List UInt8 := if u = 0 then [] else Lib.decDigits u
theorem digs_zero : digs 0 = [] := rfl
theorem digs_pos {u : Nat} (h : 0 < u) : digs u = Lib.decDigits u := if_neg (by omega)
theorem digs_step {u : Nat} (h : 0 < u) : digs u = digs (u / 10) ++ [UInt8.ofNat (48 + u % 10)] := by
  rw [digs_pos h]
  by_cases h10 : u < 10
  · rw [Lib.decDigits_one h10, Nat.mod_eq_of_lt h10, show u / 10 = 0 by omega]
    rfl
  · rw [decDigits_more h10, digs_pos (by omega)]
theorem decDigits_head (u : Nat) : ∃ b r, Lib.decDigits u = b :: r ∧ 48 ≤ b.toNat ∧ b.toNat ≤ 57 := by
  induction u using Nat.strongRecOn with
  | _ u ih =>
    by_cases h : u < 10
    · exact ⟨_, [], Lib.decDigits_one h, by rw [digit_byte u h]; omega, by rw [digit_byte u h]; omega⟩
    · obtain ⟨b, r, e, h1, h2⟩ := ih (u / 10) (by omega)
      exact ⟨b, r ++ [UInt8.ofNat (48 + u % 10)], by rw [decDigits_more h, e]; rfl, h1, h2⟩
theorem atoi_digits (u : Nat) : Lib.atoi (Lib.decDigits u) = some (u : Int) := by
  obtain ⟨b, r, e, h1, h2⟩ := decDigits_head u
  have hd := decFrom_digits u
  rw [e] at hd ⊢
  have n45 : (b == 45) = false := by
    rw [beq_eq_false_iff_ne]
    rintro rfl
    have : (45 : UInt8).toNat = 45 := rfl
    omega
  have n43 : (b == 43) = false := by
    rw [beq_eq_false_iff_ne]
    rintro rfl
    have : (43 : UInt8).toNat = 43 := rfl
    omega
  simp [Lib.atoi, n45, n43, Lib.decNat, hd]
theorem nDigits_le : ∀ (k u : Nat), u < 10 ^ (k + 1) → Lib.nDigits u ≤ k + 1
  | 0, u, h => by rw [Lib.nDigits_small (by simpa using h)]; exact Nat.le_refl _
  | k + 1, u, h => by
    by_cases h10 : u < 10
    · rw [Lib.nDigits_small h10]; omega
    · rw [Lib.nDigits_big h10]
      have := nDigits_le k (u / 10) (by rw [Nat.pow_succ] at h; omega)
      omega
theorem digits_len {m : Nat} (h : m ≤ 1000000000) : (Lib.decDigits m).length ≤ 10 := by
  rw [Lib.decDigits_length]
  exact nDigits_le 9 m (by omega)
/-- What ParseUint answers. -/
def prs (l : List UInt8) : Int × Bool :=
  match Lib.decFrom 0 l with
  | some m => if m ≤ 1000000000 ∧ Lib.decDigits m = l then ((m : Int), true) else (0, false)
  | none => (0, false)
theorem prs_no {l : List UInt8} (h : Lib.decFrom 0 l = none) : prs l = (0, false) := by
  unfold prs; rw [h]
theorem prs_some {l : List UInt8} {m : Nat} (h : Lib.decFrom 0 l = some m) : prs l = if m ≤ 1000000000 ∧ Lib.decDigits m = l then ((m : Int), true) else (0, false) := by
  unfold prs; rw [h]
theorem prs_digits (m : Nat) : prs (Lib.decDigits m) = if m ≤ 1000000000 then ((m : Int), true) else (0, false) := by
  rw [prs_some (decFrom_digits m)]
  by_cases h : m ≤ 1000000000
  · rw [if_pos ⟨h, rfl⟩, if_pos h]
  · rw [if_neg (fun e => h e.1), if_neg h]
/-- It says yes at the digits of a number in range alone. -/
theorem prs_cases (l : List UInt8) : (∃ m : Nat, m ≤ 1000000000 ∧ l = Lib.decDigits m ∧ prs l = ((m : Int), true)) ∨ ((∀ m : Nat, m ≤ 1000000000 → l ≠ Lib.decDigits m) ∧ prs l = (0, false)) := by
  by_cases h : ∃ m : Nat, m ≤ 1000000000 ∧ l = Lib.decDigits m
  · obtain ⟨m, hm, rfl⟩ := h
    exact .inl ⟨m, hm, rfl, by rw [prs_digits, if_pos hm]⟩
  · refine .inr ⟨fun m hm e => h ⟨m, hm, e⟩, ?_⟩
    cases hd : Lib.decFrom 0 l with
    | none => exact prs_no hd
    | some m => rw [prs_some hd, if_neg fun e => h ⟨m, e.1, e.2.symm⟩]
theorem prs_long {l : List UInt8} (h : 10 < l.length) : prs l = (0, false) := by
  rcases prs_cases l with ⟨m, hm, rfl, _⟩ | ⟨_, h2⟩
  · have := digits_len hm
    omega
  · exact h2
theorem prs_atoi_none {l : List UInt8} (h : Lib.atoi l = none) : prs l = (0, false) := by
  rcases prs_cases l with ⟨m, hm, rfl, _⟩ | ⟨_, h2⟩
  · rw [atoi_digits] at h; cases h
  · exact h2
theorem prs_atoi_some {l : List UInt8} {n : Int} (h : Lib.atoi l = some n) : prs l = if (0 ≤ n ∧ n ≤ 1000000000) ∧ Lib.itoa n = l then (n, true) else (0, false) := by
  rcases prs_cases l with ⟨m, hm, rfl, h2⟩ | ⟨h1, h2⟩
  · rw [atoi_digits] at h
    injection h with h
    subst h
    rw [h2, if_pos ⟨⟨by omega, by omega⟩, by unfold Lib.itoa; rw [if_neg (by omega)]; rfl⟩]
  · rw [h2, if_neg]
    rintro ⟨⟨a, b⟩, e⟩
    refine h1 n.toNat (by omega) ?_
    rw [← e]
    unfold Lib.itoa
    rw [if_neg (by omega)]
theorem prs_itoa (n : Int) : prs (Lib.itoa n) = if 0 ≤ n ∧ n ≤ 1000000000 then (n, true) else (0, false) := by
  by_cases h : n < 0
  · rw [if_neg (by omega)]
    refine prs_no ?_
    unfold Lib.itoa
    rw [if_pos h]
    rfl
  · have e : Lib.itoa n = Lib.decDigits n.toNat := if_neg h
    rw [e, prs_digits]
    by_cases h2 : n ≤ 1000000000
    · rw [if_pos (by omega), if_pos ⟨by omega, h2⟩, Int.toNat_of_nonneg (by omega)]
    · rw [if_neg (by omega), if_neg (by omega)]
theorem itoa_ne (n : Int) : Lib.itoa n ≠ [] := by
  unfold Lib.itoa
  split
  · exact List.cons_ne_nil _ _
  · obtain ⟨b, r, e, _⟩ := decDigits_head n.toNat
    rw [e]
    exact List.cons_ne_nil _ _

/-! ### Hexadecimal digits -/
/-- The value of a lower-case hexadecimal digit, -1 of any other byte. -/
def hexV (b : UInt8) : Int := if 48 ≤ b.toNat ∧ b.toNat ≤ 57 then (b.toNat : Int) - 48 else if 97 ≤ b.toNat ∧ b.toNat ≤ 102 then (b.toNat : Int) - 97 + 10 else -1
def unhex : List UInt8 → Option (List UInt8)
  | [] => some []
  | [_] => none
  | p :: q :: t => if hexV p < 0 ∨ hexV q < 0 then none else (unhex t).map (UInt8.ofNat ((hexV p).toNat * 16 + (hexV q).toNat) :: ·)
theorem hex_yes_fin : ∀ n : Fin 256, 0 ≤ hexV (UInt8.ofNat n.val) → Lib.Hx.v (UInt8.ofNat n.val) = (hexV (UInt8.ofNat n.val)).toNat ∧ (hexV (UInt8.ofNat n.val)).toNat ≤ 15 ∧ Lib.Hx.digit (hexV (UInt8.ofNat n.val)).toNat = UInt8.ofNat n.val := by decide +kernel
theorem hex_no_fin : ∀ n : Fin 256, Lib.Hx.v (UInt8.ofNat n.val) ≤ 15 → Lib.Hx.digit (Lib.Hx.v (UInt8.ofNat n.val)) = UInt8.ofNat n.val → 0 ≤ hexV (UInt8.ofNat n.val) := by decide +kernel
theorem byte_fin (b : UInt8) : ∃ n : Fin 256, b = UInt8.ofNat n.val := ⟨⟨b.toNat, b.toNat_lt⟩, by simp⟩
theorem hex_yes {b : UInt8} (h : 0 ≤ hexV b) : Lib.Hx.v b = (hexV b).toNat ∧ (hexV b).toNat ≤ 15 ∧ Lib.Hx.digit (hexV b).toNat = b := by
  obtain ⟨n, rfl⟩ := byte_fin b
  exact hex_yes_fin n h
theorem hex_no {b : UInt8} (h1 : Lib.Hx.v b ≤ 15) (h2 : Lib.Hx.digit (Lib.Hx.v b) = b) : 0 ≤ hexV b := by
  obtain ⟨n, rfl⟩ := byte_fin b
  exact hex_no_fin n h1 h2
theorem hexV_ge (b : UInt8) : -1 ≤ hexV b := by
  unfold hexV
  split
  · omega
  · split <;> omega
theorem pair_byte {x y : Nat} (hx : x ≤ 15) (hy : y ≤ 15) : (UInt8.ofNat (x * 16 + y)).toNat / 16 = x ∧ (UInt8.ofNat (x * 16 + y)).toNat % 16 = y := by
  rw [UInt8.toNat_ofNat']
  omega
theorem unhex_some : ∀ (l b : List UInt8), unhex l = some b → Lib.Hx.decode l = (b, .ok) ∧ Lib.Hx.encode b = l ∧ l.length = 2 * b.length
  | [], b, h => by
    cases h
    exact ⟨Lib.Hx.decode_nil, rfl, rfl⟩
  | [_], b, h => by cases h
  | p :: q :: t, b, h => by
    unfold unhex at h
    split at h
    · cases h
    · rename_i hc
      obtain ⟨b', hb', rfl⟩ := Option.map_eq_some_iff.1 h
      obtain ⟨i1, i2, i3⟩ := unhex_some t b' hb'
      have p0 : 0 ≤ hexV p := by omega
      have q0 : 0 ≤ hexV q := by omega
      obtain ⟨p1, p2, p3⟩ := hex_yes p0
      obtain ⟨q1, q2, q3⟩ := hex_yes q0
      obtain ⟨e1, e2⟩ := pair_byte p2 q2
      refine ⟨?_, ?_, by simp [i3]; omega⟩
      · rw [Lib.Hx.decode_two, p1, q1, if_neg (by omega), if_neg (by omega), i1]
      · rw [Lib.Hx.encode_cons, e1, e2, p3, q3, i2]
theorem unhex_of : ∀ (l b : List UInt8), Lib.Hx.decode l = (b, .ok) → Lib.Hx.encode b = l → unhex l = some b
  | [], b, h, _ => by
    rw [Lib.Hx.decode_nil] at h
    cases h
    rfl
  | [c], b, h, _ => by
    rw [Lib.Hx.decode_one] at h
    split at h <;> cases h
  | p :: q :: t, b, h, he => by
    rw [Lib.Hx.decode_two] at h
    split at h
    · cases h
    · split at h
      · cases h
      · rename_i n1 n2
        injection h with h1 h2
        subst h1
        obtain ⟨e1, e2⟩ := pair_byte (x := Lib.Hx.v p) (y := Lib.Hx.v q) (by omega) (by omega)
        rw [Lib.Hx.encode_cons, e1, e2] at he
        injection he with a1 he
        injection he with a2 a3
        have p0 := hex_no (by omega) a1
        have q0 := hex_no (by omega) a2
        unfold unhex
        rw [if_neg (by omega), unhex_of t _ (Prod.ext rfl h2) a3, (hex_yes p0).1, (hex_yes q0).1]
        rfl
theorem unhex_encode (l : List UInt8) : unhex (Lib.Hx.encode l) = some l := by
  induction l with
  | nil => rfl
  | cons a t ih =>
    rw [Lib.Hx.encode_cons]
    have h1 : a.toNat / 16 ≤ 15 := by have := a.toNat_lt; omega
    have h2 : a.toNat % 16 ≤ 15 := by omega
    have hv : ∀ d, d ≤ 15 → hexV (Lib.Hx.digit d) = (d : Int) := by
      intro d hd
      rcases (show d = 0 ∨ d = 1 ∨ d = 2 ∨ d = 3 ∨ d = 4 ∨ d = 5 ∨ d = 6 ∨ d = 7 ∨ d = 8 ∨ d = 9 ∨ d = 10 ∨ d = 11 ∨ d = 12 ∨ d = 13 ∨ d = 14 ∨ d = 15 by omega) with rfl | rfl | rfl | rfl | rfl | rfl | rfl | rfl | rfl | rfl | rfl | rfl | rfl | rfl | rfl | rfl <;> decide +kernel
    unfold unhex
    rw [hv _ h1, hv _ h2, if_neg (by omega), ih]
    have e : a.toNat / 16 * 16 + a.toNat % 16 = a.toNat := by omega
    simp only [Int.toNat_natCast, e, Option.map_some, UInt8.ofNat_toNat]
/-- What DecodeHex answers. -/
def decHex (l : List UInt8) : List UInt8 × Bool :=
  match unhex l with
  | some b => if b.length ≤ 20000 then (b, true) else ([], false)
  | none => ([], false)
theorem decHex_none {l : List UInt8} (h : unhex l = none) : decHex l = ([], false) := by unfold decHex; rw [h]
theorem decHex_some {l b : List UInt8} (h : unhex l = some b) : decHex l = if b.length ≤ 20000 then (b, true) else ([], false) := by unfold decHex; rw [h]

/-! ### Fields -/
def okByte (b : UInt8) : Prop := 32 ≤ b.toNat ∧ b.toNat ≤ 126
instance : DecidablePred okByte := fun b => inferInstanceAs (Decidable (32 ≤ b.toNat ∧ b.toNat ≤ 126))
theorem isSp_fin : ∀ n : Fin 256, 32 ≤ n.val → Lib.isSp (UInt8.ofNat n.val) = decide (n.val = 32) := by decide +kernel
theorem isSp_ok {b : UInt8} (h : okByte b) : Lib.isSp b = decide (b.toNat = 32) := by
  have := isSp_fin ⟨b.toNat, b.toNat_lt⟩ h.1
  simpa using this
/-- What SplitFields answers. -/
def spl (l : List UInt8) : List (List UInt8) × Bool := if l.length ≤ 600 ∧ (∀ b ∈ l, okByte b) ∧ (Lib.fields l).length ≤ 24 then (Lib.fields l, true) else ([], false)
theorem fieldsGo_mem : ∀ (l cur x : List UInt8), x ∈ Lib.fieldsGo cur l → (∀ b ∈ cur, Lib.isSp b = false) → x ≠ [] ∧ ∀ b ∈ x, Lib.isSp b = false ∧ (b ∈ cur ∨ b ∈ l)
  | [], cur, x, h, hc => by
    unfold Lib.fieldsGo at h
    split at h
    · cases h
    · rename_i hne
      obtain rfl := List.mem_singleton.1 h
      exact ⟨by intro e; rw [e] at hne; exact hne rfl, fun b hb => ⟨hc b hb, .inl hb⟩⟩
  | a :: l, cur, x, h, hc => by
    cases ha : Lib.isSp a with
    | true =>
      cases cur with
      | nil =>
        rw [Lib.fieldsGo_sp a l ha] at h
        obtain ⟨h1, h2⟩ := fieldsGo_mem l [] x h (fun b hb => by cases hb)
        exact ⟨h1, fun b hb => ⟨(h2 b hb).1, .inr (List.mem_cons_of_mem _ ((h2 b hb).2.resolve_left (by simp)))⟩⟩
      | cons c cur =>
        rw [Lib.fieldsGo_end (c :: cur) a l ha (List.cons_ne_nil _ _)] at h
        rcases List.mem_cons.1 h with rfl | h
        · exact ⟨List.cons_ne_nil _ _, fun b hb => ⟨hc b hb, .inl hb⟩⟩
        · obtain ⟨h1, h2⟩ := fieldsGo_mem l [] x h (fun b hb => by cases hb)
          exact ⟨h1, fun b hb => ⟨(h2 b hb).1, .inr (List.mem_cons_of_mem _ ((h2 b hb).2.resolve_left (by simp)))⟩⟩
    | false =>
      rw [Lib.fieldsGo_more cur a l ha] at h
      obtain ⟨h1, h2⟩ := fieldsGo_mem l (cur ++ [a]) x h (fun b hb => by
        rcases List.mem_append.1 hb with hb | hb
        · exact hc b hb
        · obtain rfl := List.mem_singleton.1 hb; exact ha)
      refine ⟨h1, fun b hb => ⟨(h2 b hb).1, ?_⟩⟩
      rcases (h2 b hb).2 with h3 | h3
      · rcases List.mem_append.1 h3 with h4 | h4
        · exact .inl h4
        · obtain rfl := List.mem_singleton.1 h4; exact .inr (List.mem_cons_self ..)
      · exact .inr (List.mem_cons_of_mem _ h3)
/-- The fields, each with a space behind it. -/
def joined (p : List (List UInt8)) : List UInt8 := p.flatMap fun x => x ++ [32]
theorem fieldsGo_token : ∀ (x cur r : List UInt8), (∀ b ∈ x, Lib.isSp b = false) → (cur ++ x ≠ []) → Lib.fieldsGo cur (x ++ 32 :: r) = (cur ++ x) :: Lib.fieldsGo [] r
  | [], cur, r, _, hne => by
    rw [List.append_nil] at hne ⊢
    exact Lib.fieldsGo_end cur 32 r rfl hne
  | a :: x, cur, r, hx, hne => by
    show Lib.fieldsGo cur (a :: (x ++ 32 :: r)) = _
    rw [Lib.fieldsGo_more cur a _ (hx a (List.mem_cons_self ..)), fieldsGo_token x (cur ++ [a]) r (fun b hb => hx b (List.mem_cons_of_mem _ hb)) (by simp)]
    simp
theorem fields_joined : ∀ (p : List (List UInt8)), (∀ x ∈ p, x ≠ [] ∧ ∀ b ∈ x, Lib.isSp b = false) → Lib.fields (joined p) = p
  | [], _ => rfl
  | x :: p, h => by
    have ih := fields_joined p fun y hy => h y (List.mem_cons_of_mem _ hy)
    unfold Lib.fields joined at ih ⊢
    rw [List.flatMap_cons, List.append_assoc]
    show Lib.fieldsGo [] (x ++ 32 :: List.flatMap (fun x => x ++ [32]) p) = _
    rw [fieldsGo_token x [] _ (h x (List.mem_cons_self ..)).2 (by simpa using (h x (List.mem_cons_self ..)).1), ih]
    rfl
theorem joined_snoc (p : List (List UInt8)) (x : List UInt8) : joined (p ++ [x]) = joined p ++ x ++ [32] := by
  unfold joined
  rw [List.flatMap_append]
  simp
/-- The fields of the joined fields are the fields. -/
theorem spl_joined {l : List UInt8} (h : ∀ b ∈ l, okByte b) (h24 : (Lib.fields l).length ≤ 24) (h6 : (joined (Lib.fields l)).length ≤ 600) : spl (joined (Lib.fields l)) = (Lib.fields l, true) := by
  have hm : ∀ x ∈ Lib.fields l, x ≠ [] ∧ ∀ b ∈ x, Lib.isSp b = false ∧ (b ∈ [] ∨ b ∈ l) := fun x hx => fieldsGo_mem l [] x hx (fun b hb => by cases hb)
  have hj := fields_joined (Lib.fields l) fun x hx => ⟨(hm x hx).1, fun b hb => ((hm x hx).2 b hb).1⟩
  unfold spl
  rw [hj, if_pos]
  refine ⟨h6, fun b hb => ?_, h24⟩
  unfold joined at hb
  obtain ⟨x, hx, hb⟩ := List.mem_flatMap.1 hb
  rcases List.mem_append.1 hb with hb | hb
  · exact h b (((hm x hx).2 b hb).2.resolve_left (by simp))
  · obtain rfl := List.mem_singleton.1 hb
    exact ⟨by decide, by decide⟩

end Go.Proofs.YtcibffmhlamcdaaDoor
