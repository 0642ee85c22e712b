/- Several of my texts as one: FmtL, IntP, Bytes, EncFixed, FmtInt, Facts0, Grow, FmtStr, FmtTerms. -/
import Derived.Test.YtpdmdfkcaabnaaaGreatDoorMA
import Derived.Lib.ItoaNum
import Derived.Lib.ItoaLen
import Derived.Lib.Join
import Derived.Lib.AtoiTie
import Derived.Lib.AtoiAll
import Derived.OwnWalk
import Derived.Laws.IdiomStrings
import Derived.Lib.BufferRead
import Derived.ShutString
import Derived.Laws.BitsAllLaws
import Derived.Laws.BitsLemmas
import Derived.Test.YtpdmdfkcaabnaaaGreatDoorShelf
import Derived.IntWalk
import Derived.Deep.RegionHeld3
import Derived.Deep.AppendLies
import Derived.Deep.RegionLaw
import Derived.Lib.AppendIntMem
/- Plain laws: joined texts and their lengths. No condition, no program in sight. -/
namespace Go.Proofs.YtpdmdfkcaabnaaaGreatDoor
open Go.RowKit
set_option linter.unusedVariables false
set_option linter.unusedSimpArgs false
theorem join_nil (sep : List UInt8) : Lib.join [] sep = [] := rfl
theorem join_single (x sep : List UInt8) : Lib.join [x] sep = x := by simp [Lib.join, List.intercalate, List.intersperse]
theorem join_cons (x y : List UInt8) (t : List (List UInt8)) (sep : List UInt8) : Lib.join (x :: y :: t) sep = x ++ sep ++ Lib.join (y :: t) sep := by
  simp [Lib.join, List.intercalate, List.intersperse]
theorem join_snoc (x : List UInt8) (sep : List UInt8) : ∀ (xs : List (List UInt8)), xs ≠ [] → Lib.join (xs ++ [x]) sep = Lib.join xs sep ++ sep ++ x
  | [], h => absurd rfl h
  | [y], _ => by rw [join_single]; exact (join_cons y x [] sep).trans (by rw [join_single])
  | y :: z :: t, _ => by
    have ih := join_snoc x sep (z :: t) (by simp)
    rw [List.cons_append, List.cons_append, join_cons, join_cons]
    rw [List.cons_append] at ih
    rw [ih]; simp
theorem join_length_le (sep : List UInt8) (B : Nat) : ∀ (xs : List (List UInt8)), (∀ x ∈ xs, x.length ≤ B) → (Lib.join xs sep).length ≤ xs.length * (B + sep.length)
  | [], _ => by simp [join_nil]
  | [y], h => by rw [join_single]; have := h y (by simp); simp; omega
  | y :: z :: t, h => by
    have ih := join_length_le sep B (z :: t) (fun x hx => h x (by simp only [List.mem_cons] at hx ⊢; exact .inr hx))
    rw [join_cons]
    have := h y (by simp)
    simp only [List.length_append, List.length_cons] at ih ⊢
    rw [Nat.succ_mul]
    omega
/-- The head of a list, one more: joined. -/
theorem join_take {α : Type} (f : α → List UInt8) (sep : List UInt8) {l : List α} {k : Nat} (hk : k < l.length) :
    Lib.join ((l.take (k + 1)).map f) sep = if k = 0 then f l[k] else Lib.join ((l.take k).map f) sep ++ sep ++ f l[k] := by
  rw [List.take_succ_eq_append_getElem hk, List.map_append, List.map_cons, List.map_nil]
  by_cases h : k = 0
  · subst h; simp [join_single]
  · rw [if_neg h, join_snoc]
    intro e
    have := congrArg List.length e
    simp only [List.length_map, List.length_take, List.length_nil] at this
    omega
def itoaLen : Nat := 21
theorem itoa_le {n : Int} (h : I64 n) : (Lib.itoa n).length ≤ 21 := Lib.itoa_length_le n h.1 h.2
/-- Numbers, separated. -/
def listS (l : List Int) (by_ : List UInt8) : List UInt8 := Lib.join (l.map Lib.itoa) by_
theorem listS_len {l : List Int} (by_ : List UInt8) (hI : ∀ x ∈ l, I64 x) : (listS l by_).length ≤ l.length * (21 + by_.length) := by
  have := join_length_le by_ 21 (l.map Lib.itoa) (by intro x hx; obtain ⟨n, hn, rfl⟩ := List.mem_map.1 hx; exact itoa_le (hI n hn))
  simpa [listS] using this
theorem listS_take {l : List Int} (by_ : List UInt8) {k : Nat} (hk : k < l.length) : listS (l.take (k + 1)) by_ = if k = 0 then Lib.itoa l[k] else listS (l.take k) by_ ++ by_ ++ Lib.itoa l[k] := join_take _ _ hk
end Go.Proofs.YtpdmdfkcaabnaaaGreatDoor
/- Plain laws of decimal numerals. No condition, no program in sight. -/
namespace Go.Proofs.YtpdmdfkcaabnaaaGreatDoor
open Go.RowKit
set_option linter.unusedVariables false
set_option linter.unusedSimpArgs false
def isDig (b : UInt8) : Bool := decide (48 ≤ b.toNat) && decide (b.toNat ≤ 57)
/-- What the digits of a text come to, whatever lies between them; how many there are. -/
def digVal (l : List UInt8) : Nat := l.foldl (fun a b => if isDig b then a * 10 + (b.toNat - 48) else a) 0
def digCnt (l : List UInt8) : Nat := l.countP isDig
theorem digVal_snoc (l : List UInt8) (b : UInt8) : digVal (l ++ [b]) = if isDig b then digVal l * 10 + (b.toNat - 48) else digVal l := by simp [digVal, List.foldl_append]
theorem digCnt_snoc (l : List UInt8) (b : UInt8) : digCnt (l ++ [b]) = digCnt l + if isDig b then 1 else 0 := by
  simp [digCnt, List.countP_append, List.countP_cons, List.countP_nil]
theorem digCnt_le (l : List UInt8) : digCnt l ≤ l.length := List.countP_le_length
theorem digVal_rev : ∀ (m : List UInt8), digVal m.reverse < 10 ^ digCnt m.reverse
  | [] => by simp [digVal, digCnt]
  | b :: t => by
    have ih := digVal_rev t
    rw [List.reverse_cons, digVal_snoc, digCnt_snoc]
    cases hb : isDig b with
    | true =>
      have h1 : b.toNat ≤ 57 := by unfold isDig at hb; simp only [Bool.and_eq_true, decide_eq_true_eq] at hb; exact hb.2
      simp only [if_true, Nat.pow_succ]
      omega
    | false => simpa using ih
theorem digVal_lt (l : List UInt8) : digVal l < 10 ^ digCnt l := by have := digVal_rev l.reverse; simpa using this
theorem dig_of (d : Nat) (h : d < 10) : isDig (UInt8.ofNat (48 + d)) = true ∧ (UInt8.ofNat (48 + d)).toNat = 48 + d := by
  have e : (UInt8.ofNat (48 + d)).toNat = 48 + d := by simp; omega
  refine ⟨?_, e⟩
  unfold isDig
  rw [e]
  simp; omega
theorem dec_all : ∀ u : Nat, ∀ b ∈ Lib.decDigits u, isDig b = true := by
  intro u
  induction u using Nat.strongRecOn with
  | _ u ih =>
    intro b hb
    rw [Lib.decDigits] at hb
    split at hb
    · simp only [List.mem_singleton] at hb; subst hb; exact (dig_of u (by omega)).1
    · rcases List.mem_append.1 hb with h | h
      · exact ih (u / 10) (by omega) b h
      · simp only [List.mem_singleton] at h; subst h; exact (dig_of (u % 10) (by omega)).1
theorem dec_val : ∀ u : Nat, digVal (Lib.decDigits u) = u := by
  intro u
  induction u using Nat.strongRecOn with
  | _ u ih =>
    rw [Lib.decDigits]
    split
    · obtain ⟨h1, h2⟩ := dig_of u (by omega)
      show digVal ([] ++ [_]) = _
      rw [digVal_snoc, h1, h2]; simp [digVal]
    · obtain ⟨h1, h2⟩ := dig_of (u % 10) (by omega)
      rw [digVal_snoc, h1, h2, ih (u / 10) (by omega)]; simp; omega
theorem dec_cnt (u : Nat) : digCnt (Lib.decDigits u) = (Lib.decDigits u).length := by
  unfold digCnt; exact List.countP_eq_length.2 (dec_all u)
theorem dec_len9 (u : Nat) (h : u ≤ 999999999) : (Lib.decDigits u).length ≤ 9 := by
  rw [Lib.decDigits_length]
  have h1 := Lib.nDigits_pos u
  rcases Nat.lt_or_ge 9 (Lib.nDigits u) with h2 | h2
  · exfalso
    have key : ∀ (k u : Nat), u < 10 ^ k → 1 ≤ k → Lib.nDigits u ≤ k := by
      intro k
      induction k with
      | zero => intro u _ h; omega
      | succ k ih =>
        intro u hu _
        by_cases h10 : u < 10
        · rw [Lib.nDigits_small h10]; omega
        · rw [Lib.nDigits_big h10]
          have hk : 1 ≤ k := by
            rcases Nat.eq_zero_or_pos k with h | h
            · subst h; simp at hu; omega
            · exact h
          have := ih (u / 10) (by rw [Nat.pow_succ] at hu; omega) hk
          omega
    have := key 9 u (by have : (10 : Nat) ^ 9 = 1000000000 := by decide
                        omega) (by omega)
    omega
  · exact h2
theorem dec_ne (u : Nat) : ∃ b r, Lib.decDigits u = b :: r ∧ isDig b = true := by
  have h1 := Lib.nDigits_pos u
  have h2 := Lib.decDigits_length u
  cases hd : Lib.decDigits u with
  | nil => rw [hd] at h2; simp at h2; omega
  | cons b r => exact ⟨b, r, rfl, dec_all u b (by rw [hd]; simp)⟩
theorem decFrom_append : ∀ (l m : List UInt8) (a : Nat), Lib.decFrom a (l ++ m) = (Lib.decFrom a l).bind fun x => Lib.decFrom x m
  | [], m, a => rfl
  | b :: r, m, a => by
    simp only [List.cons_append, Lib.decFrom]
    cases Lib.digitVal b with
    | none => rfl
    | some d => exact decFrom_append r m _
theorem decFrom_dec : ∀ u : Nat, Lib.decFrom 0 (Lib.decDigits u) = some u := by
  intro u
  induction u using Nat.strongRecOn with
  | _ u ih =>
    rw [Lib.decDigits]
    split
    · obtain ⟨h1, h2⟩ := dig_of u (by omega)
      have h3 : Lib.digitVal (UInt8.ofNat (48 + u)) = some u := by unfold Lib.digitVal; rw [h2, if_pos (by omega)]; simp
      simp only [Lib.decFrom, h3]
      simp
    · obtain ⟨h1, h2⟩ := dig_of (u % 10) (by omega)
      have h3 : Lib.digitVal (UInt8.ofNat (48 + u % 10)) = some (u % 10) := by unfold Lib.digitVal; rw [h2, if_pos (by omega)]; simp
      rw [decFrom_append, ih (u / 10) (by omega)]
      simp only [Lib.decFrom, h3, Option.bind_some]
      simp; omega
theorem decNat_dec (u : Nat) : Lib.decNat (Lib.decDigits u) = some u := by
  obtain ⟨b, r, h, _⟩ := dec_ne u
  unfold Lib.decNat
  rw [h]
  show Lib.decFrom 0 (b :: r) = _
  rw [← h]; exact decFrom_dec u
theorem atoi_itoa (n : Int) : Lib.atoi (Lib.itoa n) = some n := by
  unfold Lib.itoa
  split
  · unfold Lib.atoi
    simp only
    rw [if_pos (by rfl), decNat_dec]
    simp; omega
  · obtain ⟨b, r, h, hb⟩ := dec_ne n.toNat
    have hd := decNat_dec n.toNat
    rw [h] at hd ⊢
    have h1 : ¬ (b == 45) = true := by
      intro e
      have e2 : b = 45 := by simpa using e
      subst e2; revert hb; decide
    have h2 : ¬ (b == 43) = true := by
      intro e
      have e2 : b = 43 := by simpa using e
      subst e2; revert hb; decide
    unfold Lib.atoi
    simp only
    rw [if_neg h1, if_neg h2, hd]
    simp; omega
theorem itoa_len10 (n : Int) (h0 : -999999999 ≤ n) (h1 : n ≤ 999999999) : (Lib.itoa n).length ≤ 10 := by
  unfold Lib.itoa
  split
  · have := dec_len9 n.natAbs (by omega); simp; omega
  · have := dec_len9 n.toNat (by omega); omega
theorem atoiAll_itoa (n : Int) (h0 : -999999999 ≤ n) (h1 : n ≤ 999999999) : Lib.atoiAll (Lib.itoa n) = .ok n := by
  have h2 := itoa_len10 n h0 h1
  rw [Lib.atoiAll_short _ (by omega), atoi_itoa]
  rfl
/-- Whether a text is a small number's own, and whose. -/
def IntIs (t : List UInt8) (v : Int) (ok : Bool) : Prop := (∃ n : Int, -999999999 ≤ n ∧ n ≤ 999999999 ∧ Lib.itoa n = t ∧ v = n ∧ ok = true) ∨ ((∀ n : Int, -999999999 ≤ n → n ≤ 999999999 → Lib.itoa n ≠ t) ∧ v = 0 ∧ ok = false)
theorem IntIs.one {t : List UInt8} {v v' : Int} {k k' : Bool} (h : IntIs t v k) (g : IntIs t v' k') : v = v' ∧ k = k' := by
  rcases h with ⟨n, a, b, c, rfl, rfl⟩ | ⟨hn, rfl, rfl⟩ <;> rcases g with ⟨n', a', b', c', rfl, rfl⟩ | ⟨hn', rfl, rfl⟩
  · have e := atoi_itoa v
    have e' := atoi_itoa v'
    rw [c] at e; rw [c'] at e'
    rw [e] at e'
    exact ⟨Option.some.inj e', rfl⟩
  · exact absurd c (hn' _ a b)
  · exact absurd c' (hn _ a' b')
  · exact ⟨rfl, rfl⟩
/-- The value that the reference reads off a text: of the first eleven bytes' digits, with the sign. -/
def readN (t : List UInt8) : Int := if t.head? = some 45 then -(digVal (t.take 11) : Int) else (digVal (t.take 11) : Int)
theorem read_itoa {n : Int} (h0 : -999999999 ≤ n) (h1 : n ≤ 999999999) : readN (Lib.itoa n) = n ∧ digCnt ((Lib.itoa n).take 11) ≤ 9 := by
  have hl := itoa_len10 n h0 h1
  unfold readN
  rw [List.take_of_length_le (by omega)]
  unfold Lib.itoa
  split
  · rw [if_pos (by rfl)]
    have e : digVal (45 :: Lib.decDigits n.natAbs) = digVal (Lib.decDigits n.natAbs) := by
      unfold digVal; rw [List.foldl_cons]; rfl
    have e2 : digCnt (45 :: Lib.decDigits n.natAbs) = digCnt (Lib.decDigits n.natAbs) := by
      unfold digCnt; rw [List.countP_cons]; rfl
    rw [e, e2, dec_val, dec_cnt]
    exact ⟨by omega, dec_len9 _ (by omega)⟩
  · obtain ⟨b, r, h, hb⟩ := dec_ne n.toNat
    rw [if_neg (by
      rw [h]
      intro e
      simp only [List.head?_cons, Option.some.injEq] at e
      subst e; revert hb; decide), dec_val, dec_cnt]
    exact ⟨by omega, dec_len9 _ (by omega)⟩
end Go.Proofs.YtpdmdfkcaabnaaaGreatDoor
/- Rows of bytes that a call makes: what they come to as strings. No condition. -/
namespace Go.Proofs.YtpdmdfkcaabnaaaGreatDoor
open Go.RowKit
set_option linter.unusedVariables false
set_option linter.unusedSimpArgs false

/-- The cells of bytes. -/
def bcells (l : List UInt8) : List Value := l.map fun b => .int .u8 (b.toNat : Int)
theorem bcells_append (l m : List UInt8) : bcells (l ++ m) = bcells l ++ bcells m := by simp [bcells]
theorem bcells_length (l : List UInt8) : (bcells l).length = l.length := by simp [bcells]
theorem bcells_one (l : List UInt8) : ∀ u ∈ bcells l, u.oneCell' = true := by
  intro u hu
  simp only [bcells, List.mem_map] at hu
  obtain ⟨b, _, rfl⟩ := hu
  rfl
theorem bcells_nil : bcells [] = [] := rfl

theorem infoByte : (Tryz.prog.info? 5).map (fun i => (i.zero, i.size, i.bytes)) = some (some (.int .u8 0), 1, 1) := by kernel_rfl

theorem slByte : SlT Tryz.prog 22 5 (.int .u8 0) 1 1 := slT_of Tryz.underlying22 infoByte rfl (by decide)

theorem own_string {w : World} {B : Nat} {v : Value} {n : Nat} {l : List UInt8} (h : w.ownsRow B 5 1 v n (bcells l)) :
    (convert 22 9 v).run Tryz.prog w = .ok (.string ⟨l.toArray⟩) w := by
  have hlen : l.length = n := by have := h.1; simpa [bcells] using this
  rcases h.2 with ⟨rfl, hn⟩ | ⟨g, cap, cur, rfl, _, _⟩
  · have hl : l = [] := by apply List.eq_nil_of_length_eq_zero; omega
    subst hl
    exact Lib.run_convert_nil_bytes w 22 9 5 0 Tryz.underlying22 Tryz.underlying5 Tryz.underlying9
  · have hc := h.cells (g := g) rfl
    have := run_convert_bytes_back (P := Tryz.prog) w 22 9 5 ⟨g, 0, none⟩ cap l Tryz.underlying22 Tryz.underlying5 Tryz.underlying9 (fun j hj => hc j _ (by simp [bcells, List.getElem?_eq_getElem hj]))
    rw [hlen] at this
    exact this
theorem toNat_ofNat_lt (n : Nat) (h : n < 256) : (UInt8.ofNat n).toNat = n := by simp; omega
end Go.Proofs.YtpdmdfkcaabnaaaGreatDoor
/- EncodeFixed, of the program and of the reference: both return the bytes 'encFixed'. No condition. -/
namespace Go.Proofs.YtpdmdfkcaabnaaaGreatDoor
open Go.RowKit
set_option linter.unusedVariables false
set_option linter.unusedSimpArgs false

/-- The lowest i bytes of a number, the highest first. -/
def lowB : Nat → Nat → List UInt8
  | 0, _ => []
  | i + 1, n => UInt8.ofNat (n / 256 ^ i % 256) :: lowB i n
theorem lowB_length (i n : Nat) : (lowB i n).length = i := by
  induction i with
  | zero => rfl
  | succ i ih => simp [lowB, ih]
def fixFits (n width : Int) : Bool := inR width 1 7 && (decide (0 ≤ n) && decide (n.toNat / 256 ^ width.toNat = 0))
def encFixed (n width : Int) : ByteArray := if fixFits n width then ⟨(lowB width.toNat n.toNat).toArray⟩ else ⟨#[]⟩

theorem q_div {q m k : Nat} (h : q = m / 256 ^ k) : q / 256 = m / 256 ^ (k + 1) := by rw [h, Nat.div_div_eq_div_mul, Nat.pow_succ]
theorem encFixed_yes (m k : Nat) (h : inR (k : Int) 1 7 = true) (h0 : m / 256 ^ k = 0) : encFixed m k = ⟨(lowB k m).toArray⟩ := by
  simp [encFixed, fixFits, h, h0]
theorem encFixed_no (m k : Nat) (h0 : m / 256 ^ k ≠ 0) : encFixed m k = ⟨#[]⟩ := by
  simp [encFixed, fixFits, h0]
theorem encFixed_neg (n width : Int) (h : ¬ 0 ≤ n) : encFixed n width = ⟨#[]⟩ := by simp [encFixed, fixFits, h]
theorem encFixed_out (n width : Int) (h : ¬ inR width 1 7 = true) : encFixed n width = ⟨#[]⟩ := by simp [encFixed, fixFits, h]
theorem pow_int (d : Nat) : ((2 : Int) ^ (8 * d)) = ((256 ^ d : Nat) : Int) := by
  rw [Int.natCast_pow, Int.pow_mul]; rfl
theorem shr_test (m d : Nat) (b : Bool) (h : decide (m / 256 ^ d = 0) = b) : ((m : Int) / 2 ^ (8 * d) != 0) = !b := by
  rw [pow_int, ← Int.natCast_ediv]
  subst h
  by_cases h0 : m / 256 ^ d = 0
  · simp [h0]
  · have : ((m / 256 ^ d : Nat) : Int) ≠ 0 := by omega
    simp only [h0, decide_false, Bool.not_false, bne_iff_ne]; exact this
def fixCells (j k m : Nat) : Array Value := (List.replicate j (Value.int .u8 0) ++ bcells (lowB k m)).toArray
theorem fixCells_zero (d m : Nat) : madeCells (Value.cells (Value.int .u8 0)) (d * 1) = fixCells d 0 m := by
  apply Array.toList_inj.1
  show (madeCells #[.int .u8 0] (d * 1)).toList = _
  rw [toList_madeCells_one]
  simp [fixCells, lowB, bcells]
theorem fixCells_at (j k m : Nat) : (fixCells (j + 1) k m)[j]? = some (.int .u8 0) := by
  simp only [fixCells, List.getElem?_toArray]
  rw [List.getElem?_append_left (by simp)]
  simp
theorem set_at_end (j : Nat) (z u : Value) (l : List Value) : (List.replicate (j + 1) z ++ l).set j u = List.replicate j z ++ u :: l := by
  induction j with
  | zero => simp
  | succ j ih => rw [List.replicate_succ, List.cons_append, List.set_cons_succ, ih]; simp [List.replicate_succ]
theorem fixCells_set (j k m q : Nat) (h : q = m / 256 ^ k) : (fixCells (j + 1) k m).setIfInBounds j (.int .u8 ((q : Int) % 256)) = fixCells j (k + 1) m := by
  apply Array.toList_inj.1
  simp only [fixCells, Array.toList_setIfInBounds]
  rw [set_at_end]
  have hx : ((q : Int) % 256) = ((UInt8.ofNat (q % 256)).toNat : Int) := by rw [toNat_ofNat_lt _ (by omega)]; omega
  rw [hx, h]
  simp [lowB, bcells]
theorem fixCells_own {wr : World} {g B k m : Nat} (hblk : Blk wr g 5 (fixCells 0 k m)) (hk : k ≤ maxLen) (hB : B ≤ g := by exact Nat.le_refl _) : wr.ownsRow B 5 1 (.slice (some ⟨g, 0, none⟩) k k) k (bcells (lowB k m)) := by
  refine ⟨by rw [bcells_length, lowB_length]; omega, .inr ⟨g, k, _, rfl, hB, hblk, Nat.le_refl _, hk, ?_, ?_⟩⟩
  · simp [fixCells, bcells_length, lowB_length]
  · simp only [fixCells, List.replicate_zero, List.nil_append]
    rw [List.take_of_length_le (by simp [bcells_length, lowB_length])]
theorem conv_one (x : Int) (h0 : 0 ≤ x) (h1 : x < 256) (wx : World) : (convert 22 9 (.slice (some ⟨wx.heap.size, 0, none⟩) 1 1)).run Tryz.prog (wx.alloc (.cells #[.int .u8 x] 5)) =
    .ok (.string ⟨#[UInt8.ofNat x.toNat]⟩) (wx.alloc (.cells #[.int .u8 x] 5)) := by
  have hx : x = ((UInt8.ofNat x.toNat).toNat : Int) := by rw [toNat_ofNat_lt _ (by omega)]; omega
  have := run_convert_bytes_back (P := Tryz.prog) (wx.alloc (.cells #[.int .u8 x] 5)) 22 9 5 ⟨wx.heap.size, 0, none⟩ 1 [UInt8.ofNat x.toNat] Tryz.underlying22 Tryz.underlying5 Tryz.underlying9 (fun j hj => by
    have hj0 : j = 0 := by simpa using hj
    subst hj0
    show (wx.alloc (.cells #[.int .u8 x] 5)).cell? ⟨wx.heap.size, 0, none⟩ = _
    rw [World.cell?_alloc_at (hn := rfl)]
    simp only [List.getElem_cons_zero]
    rw [← hx]; rfl)
  simpa using this

end Go.Proofs.YtpdmdfkcaabnaaaGreatDoor
/- FormatInt of the program and of the reference: a number's decimal numeral. Condition: what the program's reads its table as (not below 100). -/
namespace Go.Proofs.YtpdmdfkcaabnaaaGreatDoor
open Go.RowKit
set_option linter.unusedVariables false
set_option linter.unusedSimpArgs false
theorem ret_str' {a b : ByteArray} (h : a = b) : Ending.returned (.string a) = .returned (.string b) := by rw [h]
/-- The digits of what is left; none of 0. -/
def decs (q : Nat) : List UInt8 := if q = 0 then [] else Lib.decDigits q
theorem decs_step {q : Nat} (h : 0 < q) : decs q = decs (q / 10) ++ [UInt8.ofNat (48 + q % 10)] := by
  unfold decs
  rw [if_neg (by omega), Lib.decDigits]
  by_cases h1 : q < 10
  · rw [dif_pos h1, if_pos (by omega), Nat.mod_eq_of_lt h1]; rfl
  · rw [dif_neg h1, if_neg (by omega)]
theorem decs_pos {q : Nat} (h : 0 < q) : decs q = Lib.decDigits q := by unfold decs; rw [if_neg (by omega)]
/-- A numeral as a string. -/
def numS (n : Int) : ByteArray := ⟨(Lib.itoa n).toArray⟩
theorem numS_zero : numS 0 = ⟨#[48]⟩ := by unfold numS Lib.itoa; rw [if_neg (by omega), show (0 : Int).toNat = 0 from rfl, Lib.decDigits_one (by omega)]; rfl
theorem numS_pos {m : Nat} {l : List UInt8} (h : 0 < m) (hl : l = decs m) : numS (m : Int) = ⟨l.toArray⟩ := by
  unfold numS Lib.itoa
  rw [if_neg (by omega), Int.toNat_natCast, hl, decs_pos h]
theorem numS_neg {m : Nat} {l : List UInt8} (h : 0 < m) (hl : l = decs m) : numS (-(m : Int)) = ⟨(45 :: l).toArray⟩ := by
  unfold numS Lib.itoa
  rw [if_pos (by omega), hl, decs_pos h]
  congr 3
  simp
theorem decs_len {q m : Nat} {lo : List UInt8} (h : decs q ++ lo = decs m) (hm : m ≤ 9223372036854775808) : lo.length ≤ 21 := by
  have h1 := congrArg List.length h
  rw [List.length_append] at h1
  have h2 : (decs m).length ≤ 21 := by
    unfold decs
    split
    · simp
    · have := Lib.itoa_length_le (-(m : Int)) (by omega) (by omega)
      unfold Lib.itoa at this
      rw [if_pos (by omega)] at this
      simp at this
      omega
  omega
theorem tmod_neg (q r : Nat) (h : q % 10 = r) : (-(q : Int)).tmod 10 = -(r : Int) := by
  rw [Int.neg_tmod, Int.tmod_eq_emod_of_nonneg (by omega)]; omega
theorem tdiv_neg (q : Nat) : (-(q : Int)).tdiv 10 = -((q / 10 : Nat) : Int) := by
  rw [Int.neg_tdiv, Int.tdiv_eq_ediv_of_nonneg (by omega)]; omega
theorem dig_str (r : Nat) (lo : List UInt8) : (⟨#[48 + UInt8.ofNat r]⟩ : ByteArray) ++ ⟨lo.toArray⟩ = ⟨(UInt8.ofNat (48 + r) :: lo).toArray⟩ := by
  rw [UInt8.ofNat_add]
  apply ByteArray.ext
  simp
theorem dig_str0 (lo : List UInt8) : (⟨#[48]⟩ : ByteArray) ++ ⟨lo.toArray⟩ = ⟨(UInt8.ofNat 48 :: lo).toArray⟩ := by
  apply ByteArray.ext
  simp
theorem dig_strV (r : Nat) (lo : List UInt8) : Value.string ((⟨#[48 + UInt8.ofNat r]⟩ : ByteArray) ++ ⟨lo.toArray⟩) = .string ⟨(UInt8.ofNat (48 + r) :: lo).toArray⟩ := by rw [dig_str]
theorem dig_strV0 (lo : List UInt8) : Value.string ((⟨#[48]⟩ : ByteArray) ++ ⟨lo.toArray⟩) = .string ⟨(UInt8.ofNat 48 :: lo).toArray⟩ := by rw [dig_str0]
set_option maxRecDepth 100000 in
set_option maxHeartbeats 1600000 in
theorem specFormatInt_any (n : Int) (w : World) (hI : I64 n) :
    Calls Tryz.prog 103 #[.int .i64 n] w fun e w' => e = .returned (.string (numS n)) ∧ Below w.heap.size w w' := by
  obtain ⟨hlo, hhi⟩ := hI
  rcases Int.lt_trichotomy n 0 with hn | rfl | hn
  · obtain ⟨m, hm⟩ := Int.eq_ofNat_of_zero_le (a := -n) (by omega)
    obtain rfl : n = -(m : Int) := by omega
    clear hm
    have hm0 : 0 < m := by omega
    have hm1 : m ≤ 9223372036854775808 := by omega
    have hne : (-(m : Int) == 0) = false := by simp; omega
    have hne' : ¬ (m : Int) = 0 := by omega
    have hd0 : decide (-(m : Int) < 0) = true := by simp; omega
    go_enter Tryz.func103, Tryz.ntmps103
    go_wp2
    go_loopw [0, 3] (fun x t wr => ∃ (q : Nat) (lo : List UInt8), x = .int .i64 (-(q : Int)) ∧ q ≤ m ∧ t = .string ⟨lo.toArray⟩ ∧ Hid (decs q ++ lo = decs m) ∧ Below w.heap.size w wr) (fun x _ _ => (-(intOf x)).toNat)
    case atStart => exact ⟨m, [], rfl, Nat.le_refl _, rfl, Lib.hid (by simp), Below.refl _ _⟩
    case round =>
      obtain ⟨q, lo, rfl, hq, rfl, HL, hbel⟩ := hrel
      have hL := decs_len HL.out hm1
      by_cases hq0 : q = 0
      · subst hq0
        have Hf := Lib.hid (numS_neg hm0 (show lo = decs m by rw [← HL.out]; rfl))
        go_wp2
        go_ret
        exact ⟨ret_str' (by rw [Hf.out]; rfl), hbel⟩
      · have hq1 : 0 < q := by omega
        have hqne : (-(q : Int) != 0) = true := by simp; omega
        have hqne' : ¬ (q : Int) = 0 := by omega
        have hdiv := tdiv_neg q
        have HS := Lib.hid (show decs (q / 10) ++ (UInt8.ofNat (48 + q % 10) :: lo) = decs m by rw [← HL.out, decs_step hq1]; simp)
        obtain ⟨r, hr⟩ : ∃ r, r = q % 10 := ⟨_, rfl⟩
        have hr10 : r < 10 := by omega
        have hrem := tmod_neg q r hr.symm
        have HR := Lib.hid hr
        clear hr
        have hcv := conv_one (48 + (r : Int)) (by omega) (by omega)
        by_cases hr0 : r = 0
        · have hrz : (r : Int) = 0 := by omega
          have Hrz := Lib.hid hr0
          subst hr0
          have hcv0 := conv_one 48 (by omega) (by omega)
          clear hcv
          go_wp2
          go_roundw
          case rel => exact ⟨q / 10, UInt8.ofNat 48 :: lo, rfl, by omega, dig_strV0 lo, Lib.hid (by rw [← HS.out, ← HR.out]), ba hbel⟩
          case measure => simp [intOf]; omega
        · have hr1 : 0 < r := by omega
          have hneg : decide (-(r : Int) < 0) = true := by simp; omega
          go_wp2
          go_roundw
          case rel => exact ⟨q / 10, UInt8.ofNat (48 + r) :: lo, rfl, by omega, dig_strV r lo, Lib.hid (by rw [← HS.out, ← HR.out]), ba hbel⟩
          case measure => simp [intOf]; omega
  · go_enter Tryz.func103, Tryz.ntmps103
    go_wp2
    go_ret
    exact ⟨ret_str' (by rw [numS_zero]), Below.refl _ _⟩
  · obtain ⟨m, rfl⟩ := Int.eq_ofNat_of_zero_le (a := n) (by omega)
    have hm0 : 0 < m := by omega
    have hm1 : m ≤ 9223372036854775808 := by omega
    have hne : ((m : Int) == 0) = false := by simp; omega
    have hd0 : decide ((m : Int) < 0) = false := by simp
    go_enter Tryz.func103, Tryz.ntmps103
    go_wp2
    go_loopw [0, 3] (fun x t wr => ∃ (q : Nat) (lo : List UInt8), x = .int .i64 (q : Int) ∧ q ≤ m ∧ t = .string ⟨lo.toArray⟩ ∧ Hid (decs q ++ lo = decs m) ∧ Below w.heap.size w wr) (fun x _ _ => (intOf x).toNat)
    case atStart => exact ⟨m, [], rfl, Nat.le_refl _, rfl, Lib.hid (by simp), Below.refl _ _⟩
    case round =>
      obtain ⟨q, lo, rfl, hq, rfl, HL, hbel⟩ := hrel
      have hL := decs_len HL.out hm1
      by_cases hq0 : q = 0
      · subst hq0
        have Hf := Lib.hid (numS_pos hm0 (show lo = decs m by rw [← HL.out]; rfl))
        go_wp2
        go_ret
        exact ⟨ret_str' (by rw [Hf.out]), hbel⟩
      · have hq1 : 0 < q := by omega
        have hqne : ((q : Int) != 0) = true := by simp; omega
        have HS := Lib.hid (show decs (q / 10) ++ (UInt8.ofNat (48 + q % 10) :: lo) = decs m by rw [← HL.out, decs_step hq1]; simp)
        have hcv := conv_one (48 + (q : Int) % 10) (by omega) (by omega)
        go_wp2
        go_roundw
        case rel => exact ⟨q / 10, UInt8.ofNat (48 + q % 10) :: lo, by go_num, by omega, dig_strV (q % 10) lo, HS, ba hbel⟩
        case measure => simp [intOf]; omega
/-- The library's table of powers reads as its initialiser lays it, whatever is made behind the heap. -/
def Tab (w : World) : Prop := Lib.TabIs Tryz.prog w "internal/strconv.uint64pow10" .u64 Lib.pow10Tab
theorem implFormatInt_small (n : Nat) (w : World) (h : n < 100) :
    Calls Tryz.prog 94 #[.int .i64 n] w fun e w' => e = .returned (.string (numS n)) ∧ w = w' := by
  have Hs := Lib.hid (show numS n = ⟨(Lib.decDigits n).toArray⟩ by unfold numS Lib.itoa; rw [if_neg (by omega), Int.toNat_natCast])
  go_enter Tryz.func94, Tryz.ntmps94
  go_wp2_with fail
  refine (Tryz.strconv_Itoa_small n h _).mono ?_
  rintro e w1 ⟨rfl, hw⟩
  cases hw
  go_wp2
  go_ret
  exact ⟨ret_str' (by rw [Hs.out]), rfl⟩
theorem implFormatInt_any (n : Int) (w : World) (hI : I64 n) (hT : Tab w) :
    Calls Tryz.prog 94 #[.int .i64 n] w fun e w' => e = .returned (.string (numS n)) ∧ Below w.heap.size w w' := by
  go_enter Tryz.func94, Tryz.ntmps94
  go_wp2_with fail
  refine (Tryz.strconv_Itoa n hI.1 hI.2 _ hT).mono ?_
  rintro e w1 ⟨rfl, k, os, rfl⟩
  have hb : Below w.heap.size w (Sort.grow (w.drewN k) os) := ⟨rfl, rfl, rfl, by simp [Sort.grow, World.drewN], fun i hi => by simp only [Sort.grow]; rw [Array.getElem?_append_left (by simpa using hi)]; rfl⟩
  go_wp2
  go_ret
  exact ⟨rfl, hb⟩
end Go.Proofs.YtpdmdfkcaabnaaaGreatDoor
/- Small lemmas for the walks of the laws: what is known of cells, sizes and bounds. No condition. -/
namespace Go.Proofs.YtpdmdfkcaabnaaaGreatDoor
open Go.RowKit
set_option linter.unusedVariables false
set_option linter.unusedSimpArgs false
theorem sum_ge_mem {α : Type} {f : α → Nat} {l : List α} {x : α} (h : x ∈ l) : f x ≤ (l.map f).sum := by
  induction l with
  | nil => simp at h
  | cons a t ih =>
    simp only [List.map_cons, List.sum_cons]
    rcases List.mem_cons.1 h with rfl | h
    · omega
    · have := ih h; omega
theorem eB {P : Program} {f : FuncId} {args : Array Value} {w : World} {v : Value} (h : Calls P f args w fun e w' => e = .returned v ∧ w = w') : Calls P f args w fun e w' => e = .returned v ∧ Below w.heap.size w w' :=
  h.mono fun _ _ ⟨h1, h2⟩ => ⟨h1, h2 ▸ Below.refl _ _⟩
theorem qB {P : Program} {f : FuncId} {args : Array Value} {w : World} {v : Value} (h : Calls P f args w fun e w' => e = .returned v ∧ Qt w w') : Calls P f args w fun e w' => e = .returned v ∧ Below w.heap.size w w' :=
  h.mono fun _ _ ⟨h1, h2⟩ => ⟨h1, h2.below⟩
theorem left_bd {n : Nat} {b : Int} (h : 0 ≤ left n b) (hb : 0 ≤ b) (hb2 : b ≤ 1048576) : n ≤ 1048576 ∧ 0 ≤ left n b ∧ left n b ≤ 1048576 := by
  have := left_fits n b h
  have := left_le n b hb
  omega
theorem bw {w W W' : World} {f : List Nat} (h : Below w.heap.size w W) (hw : Wrote f W W') (hf : ∀ g ∈ f, w.heap.size ≤ g) : Below w.heap.size w W' := h.trans (hw.below h.size hf)
end Go.Proofs.YtpdmdfkcaabnaaaGreatDoor
/- Slices of data that the call itself makes, one element behind the other. Over any program; no condition. -/
namespace Go.Proofs.YtpdmdfkcaabnaaaGreatDoor
open Go.RowKit
set_option linter.unusedVariables false
set_option linter.unusedSimpArgs false
/-- A slice of the call's own (all its blocks lie from B on, none twice) that reads as a list. -/
def grR {α : Type} (E : TypeId) (sz : Nat) (R : Rd α) (B : Nat) (w : World) (v : Value) (l : List α) (f : List Nat) : Prop :=
  ∃ rows fs, All R w rows l fs ∧ (∀ c ∈ rows, c.length = sz) ∧ w.ownsRow B E sz v l.length rows.flatten ∧ f = v.ownBlock.toList ++ fs.flatten ∧ Fresh B f
theorem own_row {w : World} {B : Nat} {E : TypeId} {sz : Nat} {v : Value} {n : Nat} {xs : List Value} (h : w.ownsRow B E sz v n xs) : Row w E sz v n xs v.ownBlock := by
  obtain ⟨o, h1, rfl⟩ := Row.of_own h; exact h1
theorem own_lt {w : World} {B : Nat} {E : TypeId} {sz : Nat} {v : Value} {n : Nat} {xs : List Value} (h : w.ownsRow B E sz v n xs) : ∀ g, v.ownBlock = some g → B ≤ g ∧ g < w.heap.size := by
  intro g hg
  rcases h.2 with ⟨rfl, _⟩ | ⟨g', cap, cur, rfl, hb, hh, _⟩
  · simp [Value.ownBlock] at hg
  · simp [Value.ownBlock] at hg
    subst hg
    exact ⟨hb, (Array.getElem?_eq_some_iff.1 hh).1⟩
section
variable {α : Type} {E : TypeId} {sz : Nat} {R : Rd α} {B : Nat} {w w' : World} {v : Value} {l : List α} {f : List Nat}
theorem grR.sl (h : grR E sz R B w v l f) : slR E sz R w v l f := by
  obtain ⟨rows, fs, ha, hl, ho, rfl, _⟩ := h
  exact ⟨rows, fs, v.ownBlock, ha, hl, own_row ho, rfl⟩
theorem grR.fresh (h : grR E sz R B w v l f) : Fresh B f := by obtain ⟨_, _, _, _, _, _, h⟩ := h; exact h
theorem grR.frame (hR : Good R) (h : grR E sz R B w v l f) (hf : ∀ g ∈ f, w'.heap[g]? = w.heap[g]?) : grR E sz R B w' v l f := by
  obtain ⟨rows, fs, ha, hl, ho, rfl, hfr⟩ := h
  refine ⟨rows, fs, ha.frame hR fun g hg => hf g (by rw [List.mem_append]; exact .inr hg), hl, ⟨ho.1, ?_⟩, rfl, hfr⟩
  rcases ho.2 with h0 | ⟨g, cap, cur, rfl, hb, hh, r⟩
  · exact .inl h0
  · exact .inr ⟨g, cap, cur, rfl, hb, (hf g (by simp [Value.ownBlock])).trans hh, r⟩
theorem grR.lt (hR : Good R) (h : grR E sz R B w v l f) : ∀ g ∈ f, g < w.heap.size := h.sl.lt hR
theorem grR.below' (hR : Good R) (h : grR E sz R B w v l f) (hb : Below w.heap.size w w') : grR E sz R B w' v l f := h.frame hR fun g hg => hb.block g (h.lt hR g hg)
/-- An empty literal. -/
theorem grR.lit (R : Rd α) (hB : B ≤ w.heap.size) (hsz : sz ≤ sz) : grR E sz R B (w.alloc (.cells #[] E)) (.slice (some ⟨w.heap.size, 0, none⟩) 0 0) [] [w.heap.size] := by
  refine ⟨[], [], .nil, by simp, ?_, by simp [Value.ownBlock], ⟨by simp, by simpa using hB⟩⟩
  exact World.ownsRow_lit _ _ _ hB (by simp) (by simp)
theorem grR.nilv (R : Rd α) : grR E sz R B w (.slice none 0 0) [] [] := by
  refine ⟨[], [], .nil, by simp, World.ownsRow_nil w B E sz, by simp [Value.ownBlock], Fresh.nil _⟩
/-- One element is appended: from the row's law to the data. -/
theorem gr_mk (hR : Good R) {rows : List (List Value)} {fs : List (List Nat)} {c : List Value} {x : α} {fx : List Nat} {H g cap : Nat} (ha : All R w rows l fs) (hl : ∀ c ∈ rows, c.length = sz)
    (hown : w.ownsRow B E sz v l.length rows.flatten) (hfr : Fresh B (v.ownBlock.toList ++ fs.flatten)) (hx : R w c x fx) (hc : c.length = sz) (hfx : Fresh B fx) (hd : ∀ g ∈ fx, g ∉ v.ownBlock.toList ++ fs.flatten)
    {w1 : World} (hw1 : Below w.heap.size w w1) (hg : w1.grownBy w' v.ownBlock) (hown' : w'.ownsRow B E sz (.slice (some ⟨g, 0, none⟩) (l.length + 1) cap) (l.length + 1) (rows.flatten ++ c)) (hat : v.ownBlock = some g ∨ g = H) (hH : w.heap.size ≤ H) :
    ∃ f', grR E sz R B w' (.slice (some ⟨g, 0, none⟩) (l.length + 1) cap) (l ++ [x]) f' ∧ (∀ k ∈ f', k ∈ v.ownBlock.toList ++ fs.flatten ∨ k ∈ fx ∨ k = H) := by
  have hlt1 := ha.lt hR
  have hlt2 := hR.lt hx
  have hnd := List.nodup_append.1 hfr.1
  have hkeep : ∀ k, k < w.heap.size → v.ownBlock ≠ some k → w'.heap[k]? = w.heap[k]? := fun k hk hne => (hg.block k (Nat.lt_of_lt_of_le hk hw1.size) (fun e => hne e.symm)).trans (hw1.block k hk)
  have h1 : All R w' rows l fs := ha.frame hR fun k hk => hkeep k (hlt1 k hk) (fun e => hnd.2.2 k (by simp [e]) k hk rfl)
  have h2 : R w' c x fx := hR.frame hx fun k hk => hkeep k (hlt2 k hk) (fun e => hd k hk (by simp [e]))
  have hB := own_lt hown'
  have hgB := (hB g (by simp [Value.ownBlock])).1
  have hgl : g ∉ fs.flatten ∧ g ∉ fx := by
    rcases hat with e | e
    · exact ⟨fun hm => hnd.2.2 g (by simp [e]) g hm rfl, fun hm => hd g hm (by simp [e])⟩
    · subst e
      exact ⟨fun hm => by have := hlt1 _ hm; omega, fun hm => by have := hlt2 _ hm; omega⟩
  refine ⟨g :: (fs ++ [fx]).flatten, ⟨rows ++ [c], fs ++ [fx], h1.snoc h2, ?_, ?_, by simp [Value.ownBlock], ?_⟩, ?_⟩
  · intro c' hc'
    rw [List.mem_append] at hc'
    rcases hc' with h | h
    · exact hl c' h
    · rw [List.mem_singleton.1 h]; exact hc
  · have e : (rows ++ [c]).flatten = rows.flatten ++ c := by simp
    rw [e, List.length_append]
    exact hown'
  · have e : (fs ++ [fx]).flatten = fs.flatten ++ fx := by simp
    rw [e]
    refine ⟨List.nodup_cons.2 ⟨?_, List.nodup_append.2 ⟨hnd.2.1, hfx.1, fun a ha b hb e => ?_⟩⟩, fun k hk => ?_⟩
    · rw [List.mem_append]
      rintro (h | h)
      · exact hgl.1 h
      · exact hgl.2 h
    · subst e
      exact hd a hb (by rw [List.mem_append]; exact .inr ha)
    · rcases List.mem_cons.1 hk with rfl | hk
      · exact hgB
      · rw [List.mem_append] at hk
        rcases hk with hk | hk
        · exact hfr.2 k (by rw [List.mem_append]; exact .inr hk)
        · exact hfx.2 k hk
  · intro k hk
    rcases List.mem_cons.1 hk with rfl | hk
    · rcases hat with e | e
      · exact .inl (by simp [e])
      · exact .inr (.inr e)
    · have e : (fs ++ [fx]).flatten = fs.flatten ++ fx := by simp
      rw [e, List.mem_append] at hk
      rcases hk with hk | hk
      · exact .inl (by rw [List.mem_append]; exact .inr hk)
      · exact .inr (.inl hk)
/-- append of one element that the walk has just laid in a block of its own: at a plain region's list. -/
theorem wpList_gr {P : Program} {T : TypeId} {z : Value} {bytes : Nat} (hT : SlT P T E z sz bytes) (hR : Good R) {w0 : World} {ops : Array Oper} {rest : List Oper} {o : Oper} {a : Act} {Q : Exit → Act → World → Prop}
    (hgd : o.guard = none) (s x : Operand) (ho : o.op = .call { callee := .builtin .append, args := #[s, x], argTypes := #[T, T] })
    (h : grR E sz R w0.heap.size w v l f) (hbel : Below w0.heap.size w0 w) (hs : a.eval s = v)
    (cs : Array Value) (d : α) (fx : List Nat) (hd : R w cs.toList d fx) (hcs : cs.size = sz) (hfx : Fresh w0.heap.size fx) (hdis : ∀ g ∈ fx, g ∉ f)
    (hx : a.eval x = .slice (some ⟨w.heap.size, 0, none⟩) 1 1) (h1 : ∀ u ∈ cs.toList, u.oneCell' = true) (hn : (l.length + 1) * bytes ≤ 140737488355328) (hm : l.length + 1 ≤ maxLen)
    (k : ∀ g cap w' f', grR E sz R w0.heap.size w' (.slice (some ⟨g, 0, none⟩) (l.length + 1) cap) (l ++ [d]) f' → Below w0.heap.size w0 w' → w.grownBy w' v.ownBlock → wpList P ops Q rest (a.put o.dst (.slice (some ⟨g, 0, none⟩) (l.length + 1) cap)) w') :
    wpList P ops Q (o :: rest) a (w.alloc (.cells cs E)) := by
  obtain ⟨i, hi, hz, hsz, hby⟩ := hT.inf
  obtain ⟨rows, fs, ha, hl, hown, rfl, hfr⟩ := h
  have hown1 : (w.alloc (.cells cs E)).ownsRow w0.heap.size E sz v l.length rows.flatten := hown.alloc _
  have hw1 : Below w.heap.size w (w.alloc (.cells cs E)) := ba (Below.refl _ _)
  have hlt := own_lt hown
  refine wpList_append_lies _ hgd s x T ho w0.heap.size E i z sz bytes hT.und hi hz hsz hby hT.zs hT.pos v l.length rows.flatten hs hown1 ⟨w.heap.size, 0, none⟩ 1 1 cs.toList hx (by simp [hcs])
    (World.news_of_block (heap_alloc_new w _)) h1 (by omega) hm hn (by simp; have := hbel.size; omega) (w.heap.size + 1) (by simp) ?_
  intro g cap w' h2 h3 h4 h5
  obtain ⟨f', hf', _⟩ := gr_mk hR ha hl hown hfr hd (by simp [hcs]) hfx hdis hw1 h3 h2 h4 (by omega)
  exact k g cap w' f' hf' (hbel.trans (below_of_grown (grownBy_trans (World.grownBy_alloc _ _ _) h3) hbel.size fun k hk => (hlt k hk).1)) (grownBy_trans (World.grownBy_alloc _ _ _) h3)
/-- .. at a step of a region that draws its order. -/
theorem step_gr {P : Program} {T : TypeId} {z : Value} {bytes : Nat} (hT : SlT P T E z sz bytes) (hR : Good R) {w0 : World} {ops : Array Oper} {o : Oper} {a : Act} {K : Act → World → Prop} {Q : Exit → Act → World → Prop} {F : Prop}
    (hgd : o.guard = none) (s x : Operand) (ho : o.op = .call { callee := .builtin .append, args := #[s, x], argTypes := #[T, T] })
    (h : grR E sz R w0.heap.size w v l f) (hbel : Below w0.heap.size w0 w) (hs : a.eval s = v)
    (cs : Array Value) (d : α) (fx : List Nat) (hd : R w cs.toList d fx) (hcs : cs.size = sz) (hfx : Fresh w0.heap.size fx) (hdis : ∀ g ∈ fx, g ∉ f)
    (hx : a.eval x = .slice (some ⟨w.heap.size, 0, none⟩) 1 1) (h1 : ∀ u ∈ cs.toList, u.oneCell' = true) (hn : (l.length + 1) * bytes ≤ 140737488355328) (hm : l.length + 1 ≤ maxLen)
    (k : ∀ g cap w' f', grR E sz R w0.heap.size w' (.slice (some ⟨g, 0, none⟩) (l.length + 1) cap) (l ++ [d]) f' → Below w0.heap.size w0 w' → w.grownBy w' v.ownBlock → K (a.put o.dst (.slice (some ⟨g, 0, none⟩) (l.length + 1) cap)) w') :
    if Region.wanted o (yielded ops a.tmps) = true then Oper.wp P o a (w.alloc (.cells cs E)) K Q else F := by
  obtain ⟨i, hi, hz, hsz, hby⟩ := hT.inf
  obtain ⟨rows, fs, ha, hl, hown, rfl, hfr⟩ := h
  have hown1 : (w.alloc (.cells cs E)).ownsRow w0.heap.size E sz v l.length rows.flatten := hown.alloc _
  have hw1 : Below w.heap.size w (w.alloc (.cells cs E)) := ba (Below.refl _ _)
  have hlt := own_lt hown
  refine step_append_lies _ hgd s x T ho w0.heap.size E i z sz bytes hT.und hi hz hsz hby hT.zs hT.pos v l.length rows.flatten hs hown1 ⟨w.heap.size, 0, none⟩ 1 1 cs.toList hx (by simp [hcs])
    (World.news_of_block (heap_alloc_new w _)) h1 (by omega) hm hn (by simp; have := hbel.size; omega) (w.heap.size + 1) (by simp) ?_
  intro g cap w' h2 h3 h4 h5
  obtain ⟨f', hf', _⟩ := gr_mk hR ha hl hown hfr hd (by simp [hcs]) hfx hdis hw1 h3 h2 h4 (by omega)
  exact k g cap w' f' hf' (hbel.trans (below_of_grown (grownBy_trans (World.grownBy_alloc _ _ _) h3) hbel.size fun k hk => (hlt k hk).1)) (grownBy_trans (World.grownBy_alloc _ _ _) h3)
end
theorem grR.less {α : Type} {E : TypeId} {sz : Nat} {R : Rd α} {B C : Nat} {w : World} {v : Value} {l : List α} {f : List Nat} (h : grR E sz R B w v l f) (hC : C ≤ B) : grR E sz R C w v l f := by
  obtain ⟨rows, fs, ha, hl, ho, rfl, hfr⟩ := h
  refine ⟨rows, fs, ha, hl, ⟨ho.1, ?_⟩, rfl, hfr.mono hC⟩
  rcases ho.2 with h0 | ⟨g, cap, cur, rfl, hb, hh, r⟩
  · exact .inl h0
  · exact .inr ⟨g, cap, cur, rfl, Nat.le_trans hC hb, hh, r⟩
end Go.Proofs.YtpdmdfkcaabnaaaGreatDoor
/- joined of the program and l2List of the reference: numbers, separated. Conditions: not more than 2^20 numbers; what the library's table reads as. -/
namespace Go.Proofs.YtpdmdfkcaabnaaaGreatDoor
open Go.RowKit
set_option linter.unusedVariables false
set_option linter.unusedSimpArgs false
/-- A text in one cell. -/
def strR : Rd (List UInt8) := fun _ cs d f => cs = [.string ⟨d.toArray⟩] ∧ f = []
theorem good_str : Good strR := ⟨fun h _ => h, fun h => by rw [h.2]; simp⟩
theorem infoStr : (Tryz.prog.info? 9).map (fun i => (i.zero, i.size, i.bytes)) = some (some (.string ⟨#[]⟩), 1, 16) := by kernel_rfl
theorem slStr : SlT Tryz.prog 116 9 (.string ⟨#[]⟩) 1 16 := slT_of Tryz.underlying116 infoStr rfl (by decide)
theorem all_strs_inv {w : World} {rows : List (List Value)} {l : List (List UInt8)} {fs : List (List Nat)} (h : All strR w rows l fs) : rows.flatten = l.map (fun x => Value.string ⟨x.toArray⟩) := by
  induction h with
  | nil => rfl
  | cons h1 _ ih => obtain ⟨rfl, rfl⟩ := h1; simp only [List.flatten_cons, ih]; rfl
/-- The cells of a slice of texts of the call's own. -/
theorem strs_cells {B : Nat} {w : World} {g cap n : Nat} {l : List (List UInt8)} {f : List Nat} (h : grR 9 1 strR B w (.slice (some ⟨g, 0, none⟩) n cap) l f) (hn : n = l.length) :
    (∀ (j : Nat) (x : ByteArray), (l.map fun y => (⟨y.toArray⟩ : ByteArray))[j]? = some x → w.cell? ⟨g, 0 + j, none⟩ = some (.string x)) ∧ g < w.heap.size ∧ n ≤ cap := by
  subst hn
  obtain ⟨rows, fs, ha, hl, ho, rfl, hfr⟩ := h
  have hr := own_row ho
  rw [all_strs_inv ha] at hr
  have hlt := (own_lt ho g rfl).2
  have hcap : l.length ≤ cap := by
    rcases hr.2 with ⟨_, hv, h0, ho'⟩ | ⟨g', cap', cur, hv, _, _, h1, _⟩
    · cases ho'
    · cases hv; exact h1
  refine ⟨fun j x hx => ?_, hlt, hcap⟩
  have hj : j < l.length := by
    rcases Nat.lt_or_ge j l.length with h | h
    · exact h
    · rw [List.getElem?_eq_none (by simpa using h)] at hx; cases hx
  obtain ⟨g', hg, hg2, hc, _⟩ := hr.at (by omega)
  cases hg2
  rw [Nat.zero_add]
  refine hc j _ ?_
  simp only [List.getElem?_map, List.getElem?_eq_getElem hj, Option.map_some, Option.some.injEq] at hx ⊢
  rw [← hx]
theorem map_data (l : List (List UInt8)) : (l.map fun y => (⟨y.toArray⟩ : ByteArray)).map (·.data.toList) = l := by
  rw [List.map_map]
  conv => rhs; rw [← List.map_id l]
  congr 1
/-- strings.Join of a slice of texts of the call's own. -/
theorem join_any {B : Nat} {w : World} {g cap n : Nat} {l : List (List UInt8)} {f : List Nat} (sep : List UInt8) (h : grR 9 1 strR B w (.slice (some ⟨g, 0, none⟩) n cap) l f) (hn : n = l.length) (h1 : l.length ≤ 1048577) (h2 : (Lib.join l sep).length ≤ 140737488355328) :
    Calls Tryz.prog 116 #[.slice (some ⟨g, 0, none⟩) n cap, .string ⟨sep.toArray⟩] w fun e w' => e = .returned (.string ⟨(Lib.join l sep).toArray⟩) ∧ Below w.heap.size w w' := by
  obtain ⟨hc, hg, hcap⟩ := strs_cells h hn
  subst hn
  have hj := Tryz.strings_Join g 0 cap (l.map fun y => (⟨y.toArray⟩ : ByteArray)) ⟨sep.toArray⟩ w hc hg (by simp; omega) (by simpa using hcap) (by rw [map_data]; exact h2)
  rw [map_data, List.length_map] at hj
  exact hj
theorem numS_data (n : Int) : (numS n) = ⟨(Lib.itoa n).toArray⟩ := rfl
theorem str_app (a b : List UInt8) : (⟨a.toArray⟩ : ByteArray) ++ ⟨b.toArray⟩ = ⟨(a ++ b).toArray⟩ := by
  apply ByteArray.ext; simp
theorem Tab.on {w w' : World} (h : Lib.TabBelow Tryz.prog w.heap.size w "internal/strconv.uint64pow10" .u64 Lib.pow10Tab) (hb : Below w.heap.size w w') : Lib.TabBelow Tryz.prog w'.heap.size w' "internal/strconv.uint64pow10" .u64 Lib.pow10Tab :=
  fun w2 h2 => h w2 (bt hb h2)
set_option maxRecDepth 100000 in
set_option maxHeartbeats 1600000 in
theorem l2List_any (v : Value) (l : List Int) (f : List Nat) (w : World) (h : ints w v l f) (hn : l.length ≤ 1048576) :
    Calls Tryz.prog 102 #[v] w fun e w' => e = .returned (.string ⟨(listS l [44]).toArray⟩) ∧ Below w.heap.size w w' := by
  obtain ⟨a, cap, rfl⟩ := slR.form h
  have hla := slR.le_max h
  have hI : ∀ x ∈ l, I64 x := by obtain ⟨o, _, _, hw⟩ := row_of_ints h; exact hw
  have HI := Lib.hid hI
  clear hI
  go_enter Tryz.func102, Tryz.ntmps102
  go_wp2
  go_loopw [3, 4] (fun t i wr => ∃ (k : Nat) (s : List UInt8), i = .int .i64 k ∧ k ≤ l.length ∧ t = .string ⟨s.toArray⟩ ∧ Hid (s = listS (l.take k) [44]) ∧ Below w.heap.size w wr) (fun _ i _ => l.length - (intOf i).toNat)
  case atStart => exact ⟨0, [], rfl, Nat.zero_le _, rfl, Lib.hid (by simp [listS, join_nil]), Below.refl _ _⟩
  case round =>
    obtain ⟨k, s, rfl, hk, rfl, HS, hbel⟩ := hrel
    by_cases hlt : k < l.length
    · obtain ⟨g, rfl, hc, _, hIk, _⟩ := (h.below' hbel).get k hlt
      have hkl : (k : Int) < (l.length : Int) := by omega
      have hsl : s.length ≤ 23068672 := by
        have h1 := listS_len (l := l.take k) [44] (fun x hx => HI.out x (List.mem_of_mem_take hx))
        have h2 := congrArg List.length HS.out
        have h3 := List.length_take_le k l
        have h4 : (l.take k).length * (21 + [(44 : UInt8)].length) ≤ 1048576 * 22 := Nat.mul_le_mul (by omega) (by simp)
        omega
      have hil := itoa_le hIk
      have HT := Lib.hid (listS_take [44] hlt)
      by_cases hk0 : k = 0
      · have HF := Lib.hid (show Lib.itoa l[k] = listS (l.take (k + 1)) [44] by rw [HT.out, if_pos hk0])
        have hs0 : s = [] := by rw [HS.out, hk0]; rfl
        subst hs0
        have hgt : decide ((0 : Int) < (k : Int)) = false := by simp; omega
        have hgt' : ¬ (0 : Int) < (k : Int) := by omega
        clear hk0
        go_wp2_with fail
        refine (specFormatInt_any _ _ hIk).mono ?_
        rintro e w1 ⟨rfl, hb1⟩
        have hb2 := bt hbel hb1
        have hns := numS_data l[k]
        rw [hns]
        clear hns
        go_wp2
        go_roundw
        case rel => exact ⟨k + 1, Lib.itoa l[k], by go_num, by omega, by first | rfl | (simp only [str_app]; done) | (simp; done), HF, hb2⟩
        case measure => simp [intOf]; omega
      · have HF := Lib.hid (show s ++ [44] ++ Lib.itoa l[k] = listS (l.take (k + 1)) [44] by rw [HT.out, if_neg hk0, ← HS.out])
        have hgt : decide ((0 : Int) < (k : Int)) = true := by simp; omega
        have hgt' : (0 : Int) < (k : Int) := by omega
        clear hk0
        go_wp2_with fail
        refine (specFormatInt_any _ _ hIk).mono ?_
        rintro e w1 ⟨rfl, hb1⟩
        have hb2 := bt hbel hb1
        have hns := numS_data l[k]
        rw [hns]
        clear hns
        go_wp2
        go_roundw
        case rel => exact ⟨k + 1, s ++ [44] ++ Lib.itoa l[k], by go_num, by omega, by first | rfl | (simp only [str_app]; done) | (simp; done), HF, hb2⟩
        case measure => simp [intOf]; omega
    · have hkl : k = l.length := by omega
      have HF := Lib.hid (show s = listS l [44] by rw [HS.out, hkl, List.take_length])
      clear hkl
      go_wp2
      go_ret
      exact ⟨ret_str' (by rw [HF.out]), hbel⟩
set_option maxRecDepth 100000 in
set_option maxHeartbeats 1600000 in
theorem joined_any (v : Value) (l : List Int) (f : List Nat) (sep : List UInt8) (hsep : sep.length ≤ 1) (w : World) (h : ints w v l f) (hn : l.length ≤ 1048576) (hT : Lib.TabBelow Tryz.prog w.heap.size w "internal/strconv.uint64pow10" .u64 Lib.pow10Tab) :
    Calls Tryz.prog 93 #[v, .string ⟨sep.toArray⟩] w fun e w' => e = .returned (.string ⟨(listS l sep).toArray⟩) ∧ Below w.heap.size w w' := by
  obtain ⟨a, cap, rfl⟩ := slR.form h
  have hla := slR.le_max h
  have hI : ∀ x ∈ l, I64 x := by obtain ⟨o, _, _, hw⟩ := row_of_ints h; exact hw
  have HI := Lib.hid hI
  have HT := Lib.hid hT
  clear hI hT
  go_enter Tryz.func93, Tryz.ntmps93
  go_wp2
  go_loopw [5, 11] (fun u i wr => ∃ (k gu cu : Nat) (lo : List (List UInt8)) (fo : List Nat), i = .int .i64 k ∧ k ≤ l.length ∧ u = .slice (some ⟨gu, 0, none⟩) lo.length cu ∧ Hid (lo = (l.take k).map Lib.itoa) ∧ grR 9 1 strR w.heap.size wr u lo fo ∧ Below w.heap.size w wr) (fun _ i _ => l.length - (intOf i).toNat)
  case atStart => exact ⟨0, _, _, [], _, rfl, Nat.zero_le _, rfl, Lib.hid rfl, grR.lit strR (Nat.le_refl _) (Nat.le_refl _), ba (Below.refl _ _)⟩
  case round =>
    obtain ⟨k, gu, cu, lo, fo, rfl, hk, rfl, Hlo, hgr, hbel⟩ := hrel
    have hll : lo.length ≤ 1048576 := by
      have h0 := congrArg List.length Hlo.out
      rw [List.length_map, List.length_take] at h0
      omega
    by_cases hlt : k < l.length
    · obtain ⟨g, rfl, hc, _, hIk, _⟩ := (h.below' hbel).get k hlt
      have hkl : (k : Int) < (l.length : Int) := by omega
      have HS := Lib.hid (show lo ++ [Lib.itoa l[k]] = (l.take (k + 1)).map Lib.itoa by rw [List.take_succ_eq_append_getElem hlt, List.map_append, Hlo.out]; rfl)
      go_wp2_with fail
      refine (implFormatInt_any l[k] _ hIk (HT.out _ hbel)).mono ?_
      rintro e w1 ⟨rfl, hb1⟩
      have hgr1 := hgr.below' good_str hb1
      have hb2 := bt hbel hb1
      have hns := numS_data l[k]
      rw [hns]
      clear hns
      go_wp2_with (at_builtin; refine wpList_gr slStr good_str rfl _ _ rfl hgr1 hb2 rfl #[.string ⟨(Lib.itoa l[k]).toArray⟩] (Lib.itoa l[k]) [] ⟨rfl, rfl⟩ rfl (Fresh.nil _) (by simp) rfl (by simp [Value.oneCell']) (by omega) (by unfold maxLen; omega) ?_; intro g3 cap3 w2 f2 hgr3 hb3 hg3)
      go_roundw
      case rel => exact ⟨k + 1, g3, cap3, lo ++ [Lib.itoa l[k]], f2, by go_num, by omega, by simp, HS, by simpa using hgr3, hb3⟩
      case measure => simp [intOf]; omega
    · have hkl : k = l.length := by omega
      have HS := Lib.hid (show lo = l.map Lib.itoa by rw [Hlo.out, hkl, List.take_length])
      clear hkl
      have hjl : (Lib.join lo sep).length ≤ 140737488355328 := by
        rw [HS.out]
        have h1 := listS_len (l := l) sep HI.out
        have h4 : l.length * (21 + sep.length) ≤ 1048576 * 22 := Nat.mul_le_mul hn (by omega)
        unfold listS at h1
        omega
      have hj := join_any sep hgr rfl (by omega) hjl
      rw [HS.out] at hj
      have Hll := Lib.hid (show lo.length = (l.map Lib.itoa).length by rw [HS.out])
      rw [← Hll.out] at hj
      go_wp2_with fail
      refine hj.mono ?_
      rintro e w1 ⟨rfl, hb1⟩
      have hb2 := bt hbel hb1
      go_wp2
      go_ret
      exact ⟨rfl, hb2⟩
end Go.Proofs.YtpdmdfkcaabnaaaGreatDoor
/- The texts of terms, separated by commas, of the program and of the reference. Conditions: not more than 2^20 terms; what the library's table reads as. -/
namespace Go.Proofs.YtpdmdfkcaabnaaaGreatDoor
open Go.RowKit
set_option linter.unusedVariables false
set_option linter.unusedSimpArgs false
/-- A term's text. -/
def termS (t : Int) : List UInt8 := if isVarB t then 120 :: Lib.itoa (t - 10) else Lib.itoa t
theorem termS_var {t : Int} (h : isVarB t = true) : termS t = 120 :: Lib.itoa (t - 10) := by unfold termS; rw [if_pos h]
theorem termS_val {t : Int} (h : isVarB t = false) : termS t = Lib.itoa t := by unfold termS; rw [if_neg (by rw [h]; simp)]
theorem var_bd {t : Int} (h : isVarB t = true) : 10 ≤ t ∧ t ≤ 17 := by unfold isVarB at h; exact inR_true h
theorem termS_le {t : Int} (h : I64 t) : (termS t).length ≤ 22 := by
  cases hv : isVarB t with
  | true =>
    have hb := var_bd hv
    have := itoa_le (n := t - 10) ⟨by omega, by omega⟩
    rw [termS_var hv, List.length_cons]; omega
  | false => rw [termS_val hv]; have := itoa_le h; omega
def termsS (l : List Int) (by_ : List UInt8) : List UInt8 := Lib.join (l.map termS) by_
theorem termsS_len {l : List Int} (by_ : List UInt8) (hI : ∀ x ∈ l, I64 x) : (termsS l by_).length ≤ l.length * (22 + by_.length) := by
  have := join_length_le by_ 22 (l.map termS) (by intro x hx; obtain ⟨n, hn, rfl⟩ := List.mem_map.1 hx; exact termS_le (hI n hn))
  simpa [termsS] using this
theorem termsS_take {l : List Int} (by_ : List UInt8) {k : Nat} (hk : k < l.length) : termsS (l.take (k + 1)) by_ = if k = 0 then termS l[k] else termsS (l.take k) by_ ++ by_ ++ termS l[k] := join_take _ _ hk
theorem retB' {P : Program} {f : FuncId} {args : Array Value} {w : World} {b c : Bool} (h : Calls P f args w fun e w' => e = .returned (.bool b) ∧ w = w') (hb : b = c) : Calls P f args w fun e w' => e = .returned (.bool c) ∧ w = w' := hb ▸ h
set_option maxHeartbeats 800000 in
theorem l3Term_any (t : Int) (w : World) (hI : I64 t) :
    Calls Tryz.prog 183 #[.int .i64 t] w fun e w' => e = .returned (.string ⟨(termS t).toArray⟩) ∧ Below w.heap.size w w' := by
  cases hv : isVarB t with
  | true =>
    have hb := var_bd hv
    obtain ⟨h10, h17⟩ := hb
    have hI2 : I64 (t - 10) := ⟨by omega, by omega⟩
    have hw1 : IntKind.i64.wrap (t - 10) = t - 10 := IntWalk.i64_in _ (by omega)
    have hil := itoa_le hI2
    have Hf := Lib.hid (termS_var hv)
    have hq := retB' (f127_any t w) hv
    go_enter Tryz.func183, Tryz.ntmps183
    go_wp2_with (go_at_call 127; refine hq.mono ?_; rintro e w' ⟨rfl, rfl⟩)
    refine (specFormatInt_any (t - 10) _ hI2).mono ?_
    rintro e w1 ⟨rfl, hb1⟩
    have hns := numS_data (t - 10)
    rw [hns]
    clear hns
    go_wp2
    go_ret
    exact ⟨ret_str' (by rw [Hf.out]; apply ByteArray.ext; simp), hb1⟩
  | false =>
    have Hf := Lib.hid (termS_val hv)
    have hq := retB' (f127_any t w) hv
    go_enter Tryz.func183, Tryz.ntmps183
    go_wp2_with (go_at_call 127; refine hq.mono ?_; rintro e w' ⟨rfl, rfl⟩)
    refine (specFormatInt_any t _ hI).mono ?_
    rintro e w1 ⟨rfl, hb1⟩
    go_wp2
    go_ret
    exact ⟨ret_str' (by rw [Hf.out]; rfl), hb1⟩
set_option maxHeartbeats 800000 in
theorem termText_any (t : Int) (w : World) (hI : I64 t) (hT : Lib.TabBelow Tryz.prog w.heap.size w "internal/strconv.uint64pow10" .u64 Lib.pow10Tab) :
    Calls Tryz.prog 176 #[.int .i64 t] w fun e w' => e = .returned (.string ⟨(termS t).toArray⟩) ∧ Below w.heap.size w w' := by
  cases hv : isVarB t with
  | true =>
    have hb := var_bd hv
    obtain ⟨h10, h17⟩ := hb
    have hI2 : I64 (t - 10) := ⟨by omega, by omega⟩
    have hw1 : IntKind.i64.wrap (t - 10) = t - 10 := IntWalk.i64_in _ (by omega)
    have hil := itoa_le hI2
    have Hf := Lib.hid (termS_var hv)
    have hq := retB' (f49_any t w) hv
    go_enter Tryz.func176, Tryz.ntmps176
    go_wp2_with (go_at_call 49; refine hq.mono ?_; rintro e w' ⟨rfl, rfl⟩)
    refine (implFormatInt_any (t - 10) _ hI2 (hT _ (Below.refl _ _))).mono ?_
    rintro e w1 ⟨rfl, hb1⟩
    have hns := numS_data (t - 10)
    rw [hns]
    clear hns
    go_wp2
    go_ret
    exact ⟨ret_str' (by rw [Hf.out]; apply ByteArray.ext; simp), hb1⟩
  | false =>
    have Hf := Lib.hid (termS_val hv)
    have hq := retB' (f49_any t w) hv
    go_enter Tryz.func176, Tryz.ntmps176
    go_wp2_with (go_at_call 49; refine hq.mono ?_; rintro e w' ⟨rfl, rfl⟩)
    refine (implFormatInt_any t _ hI (hT _ (Below.refl _ _))).mono ?_
    rintro e w1 ⟨rfl, hb1⟩
    go_wp2
    go_ret
    exact ⟨ret_str' (by rw [Hf.out]; rfl), hb1⟩
set_option maxRecDepth 100000 in
set_option maxHeartbeats 1600000 in
theorem l3Terms_any (v : Value) (l : List Int) (f : List Nat) (w : World) (h : ints w v l f) (hn : l.length ≤ 1048576) :
    Calls Tryz.prog 118 #[v] w fun e w' => e = .returned (.string ⟨(termsS l [44]).toArray⟩) ∧ Below w.heap.size w w' := by
  obtain ⟨a, cap, rfl⟩ := slR.form h
  have hla := slR.le_max h
  have hI : ∀ x ∈ l, I64 x := by obtain ⟨o, _, _, hw⟩ := row_of_ints h; exact hw
  have HI := Lib.hid hI
  clear hI
  go_enter Tryz.func118, Tryz.ntmps118
  go_wp2
  go_loopw [3, 4] (fun t i wr => ∃ (k : Nat) (s : List UInt8), i = .int .i64 k ∧ k ≤ l.length ∧ t = .string ⟨s.toArray⟩ ∧ Hid (s = termsS (l.take k) [44]) ∧ Below w.heap.size w wr) (fun _ i _ => l.length - (intOf i).toNat)
  case atStart => exact ⟨0, [], rfl, Nat.zero_le _, rfl, Lib.hid (by simp [termsS, join_nil]), Below.refl _ _⟩
  case round =>
    obtain ⟨k, s, rfl, hk, rfl, HS, hbel⟩ := hrel
    by_cases hlt : k < l.length
    · obtain ⟨g, rfl, hc, _, hIk, _⟩ := (h.below' hbel).get k hlt
      have hkl : (k : Int) < (l.length : Int) := by omega
      have hsl : s.length ≤ 24117248 := by
        have h1 := termsS_len (l := l.take k) [44] (fun x hx => HI.out x (List.mem_of_mem_take hx))
        have h2 := congrArg List.length HS.out
        have h3 := List.length_take_le k l
        have h4 : (l.take k).length * (22 + [(44 : UInt8)].length) ≤ 1048576 * 23 := Nat.mul_le_mul (by omega) (by simp)
        omega
      have hil := termS_le hIk
      have HT := Lib.hid (termsS_take [44] hlt)
      by_cases hk0 : k = 0
      · have HF := Lib.hid (show termS l[k] = termsS (l.take (k + 1)) [44] by rw [HT.out, if_pos hk0])
        have hs0 : s = [] := by rw [HS.out, hk0]; rfl
        subst hs0
        have hgt : decide ((0 : Int) < (k : Int)) = false := by simp; omega
        have hgt' : ¬ (0 : Int) < (k : Int) := by omega
        clear hk0
        go_wp2_with fail
        refine (l3Term_any _ _ hIk).mono ?_
        rintro e w1 ⟨rfl, hb1⟩
        have hb2 := bt hbel hb1
        go_wp2
        go_roundw
        case rel => exact ⟨k + 1, termS l[k], by go_num, by omega, by first | rfl | (simp only [str_app]; done) | (simp; done), HF, hb2⟩
        case measure => simp [intOf]; omega
      · have HF := Lib.hid (show s ++ [44] ++ termS l[k] = termsS (l.take (k + 1)) [44] by rw [HT.out, if_neg hk0, ← HS.out])
        have hgt : decide ((0 : Int) < (k : Int)) = true := by simp; omega
        have hgt' : (0 : Int) < (k : Int) := by omega
        clear hk0
        go_wp2_with fail
        refine (l3Term_any _ _ hIk).mono ?_
        rintro e w1 ⟨rfl, hb1⟩
        have hb2 := bt hbel hb1
        go_wp2
        go_roundw
        case rel => exact ⟨k + 1, s ++ [44] ++ termS l[k], by go_num, by omega, by first | rfl | (simp only [str_app]; done) | (simp; done), HF, hb2⟩
        case measure => simp [intOf]; omega
    · have hkl : k = l.length := by omega
      have HF := Lib.hid (show s = termsS l [44] by rw [HS.out, hkl, List.take_length])
      clear hkl
      go_wp2
      go_ret
      exact ⟨ret_str' (by rw [HF.out]), hbel⟩
set_option maxRecDepth 100000 in
set_option maxHeartbeats 1600000 in
theorem termsText_any (v : Value) (l : List Int) (f : List Nat) (w : World) (h : ints w v l f) (hn : l.length ≤ 1048576) (hT : Lib.TabBelow Tryz.prog w.heap.size w "internal/strconv.uint64pow10" .u64 Lib.pow10Tab) :
    Calls Tryz.prog 115 #[v] w fun e w' => e = .returned (.string ⟨(termsS l [44]).toArray⟩) ∧ Below w.heap.size w w' := by
  obtain ⟨a, cap, rfl⟩ := slR.form h
  have hla := slR.le_max h
  have hI : ∀ x ∈ l, I64 x := by obtain ⟨o, _, _, hw⟩ := row_of_ints h; exact hw
  have HI := Lib.hid hI
  have HT := Lib.hid hT
  clear hI hT
  go_enter Tryz.func115, Tryz.ntmps115
  go_wp2
  go_loopw [3, 9] (fun u i wr => ∃ (k gu cu : Nat) (lo : List (List UInt8)) (fo : List Nat), i = .int .i64 k ∧ k ≤ l.length ∧ u = .slice (some ⟨gu, 0, none⟩) lo.length cu ∧ Hid (lo = (l.take k).map termS) ∧ grR 9 1 strR w.heap.size wr u lo fo ∧ Below w.heap.size w wr) (fun _ i _ => l.length - (intOf i).toNat)
  case atStart => exact ⟨0, _, _, [], _, rfl, Nat.zero_le _, rfl, Lib.hid rfl, grR.lit strR (Nat.le_refl _) (Nat.le_refl _), ba (Below.refl _ _)⟩
  case round =>
    obtain ⟨k, gu, cu, lo, fo, rfl, hk, rfl, Hlo, hgr, hbel⟩ := hrel
    have hll : lo.length ≤ 1048576 := by
      have h0 := congrArg List.length Hlo.out
      rw [List.length_map, List.length_take] at h0
      omega
    by_cases hlt : k < l.length
    · obtain ⟨g, rfl, hc, _, hIk, _⟩ := (h.below' hbel).get k hlt
      have hkl : (k : Int) < (l.length : Int) := by omega
      have HS := Lib.hid (show lo ++ [termS l[k]] = (l.take (k + 1)).map termS by rw [List.take_succ_eq_append_getElem hlt, List.map_append, Hlo.out]; rfl)
      go_wp2_with fail
      refine (termText_any l[k] _ hIk (Tab.on HT.out hbel)).mono ?_
      rintro e w1 ⟨rfl, hb1⟩
      have hgr1 := hgr.below' good_str hb1
      have hb2 := bt hbel hb1
      go_wp2_with (at_builtin; refine wpList_gr slStr good_str rfl _ _ rfl hgr1 hb2 rfl #[.string ⟨(termS l[k]).toArray⟩] (termS l[k]) [] ⟨rfl, rfl⟩ rfl (Fresh.nil _) (by simp) rfl (by simp [Value.oneCell']) (by omega) (by unfold maxLen; omega) ?_; intro g3 cap3 w2 f2 hgr3 hb3 hg3)
      go_roundw
      case rel => exact ⟨k + 1, g3, cap3, lo ++ [termS l[k]], f2, by go_num, by omega, by simp, HS, by simpa using hgr3, hb3⟩
      case measure => simp [intOf]; omega
    · have hkl : k = l.length := by omega
      have HS := Lib.hid (show lo = l.map termS by rw [Hlo.out, hkl, List.take_length])
      clear hkl
      have hjl : (Lib.join lo [44]).length ≤ 140737488355328 := by
        rw [HS.out]
        have h1 := termsS_len (l := l) [44] HI.out
        have h4 : l.length * (22 + [(44 : UInt8)].length) ≤ 1048576 * 23 := Nat.mul_le_mul hn (by simp)
        unfold termsS at h1
        omega
      have hj := join_any [44] hgr rfl (by omega) hjl
      rw [HS.out] at hj
      have Hll := Lib.hid (show lo.length = (l.map termS).length by rw [HS.out])
      rw [← Hll.out] at hj
      go_wp2_with fail
      refine hj.mono ?_
      rintro e w1 ⟨rfl, hb1⟩
      have hb2 := bt hbel hb1
      go_wp2
      go_ret
      exact ⟨rfl, hb2⟩
end Go.Proofs.YtpdmdfkcaabnaaaGreatDoor
