import Derived.Test.YtckdlfbbkemklaaZPgPlain
section
/- node: what its functions compute of inner nodes, in plain terms. -/
namespace Go.Gv
set_option linter.unusedVariables false
set_option linter.unusedSimpArgs false

abbrev KEY := Int × Int
def betw (n low high : Int) : Bool := decide (low ≤ n) && decide (n ≤ high)
def keyOk (k : KEY) : Bool := betw k.1 0 4294967295
def lessK (a b : KEY) : Bool := decide (a.1 < b.1) || (decide (a.1 = b.1) && decide (a.2 < b.2))
/-- may the key at place i be there? -/
def keyAt (ks : List KEY) (i : Nat) : Bool := keyOk (ks.getD i (0, 0)) && (decide (i = 0) || lessK (ks.getD (i - 1) (0, 0)) (ks.getD i (0, 0)))
def kidAt (kids : List Int) (i : Nat) : Bool := betw (kids.getD i 0) 2 511 && !decide (kids.getD i 0 ∈ kids.take i)
def keysTo (ks : List KEY) : Nat → Bool
  | 0 => true
  | i + 1 => keysTo ks i && keyAt ks i
def kidsTo (kids : List Int) : Nat → Bool
  | 0 => true
  | i + 1 => kidsTo kids i && kidAt kids i
def innerB (ks : List KEY) (kids : List Int) : Bool := keysTo ks ks.length && kidsTo kids kids.length && decide (ks.length = kids.length) && betw (kids.length : Int) 1 16
theorem keysTo_mono (ks : List KEY) {i : Nat} (h : keysTo ks i = false) : ∀ j, i ≤ j → keysTo ks j = false
  | 0, hj => by obtain rfl : i = 0 := by omega
                exact h
  | j + 1, hj => by
    by_cases e : i = j + 1
    · subst e; exact h
    · rw [keysTo, keysTo_mono ks h j (by omega), Bool.false_and]
theorem kidsTo_mono (ks : List Int) {i : Nat} (h : kidsTo ks i = false) : ∀ j, i ≤ j → kidsTo ks j = false
  | 0, hj => by obtain rfl : i = 0 := by omega
                exact h
  | j + 1, hj => by
    by_cases e : i = j + 1
    · subst e; exact h
    · rw [kidsTo, kidsTo_mono ks h j (by omega), Bool.false_and]
def n64 (t : Int) : Nat := (t % 18446744073709551616).toNat
def keyB (k : KEY) : List UInt8 := bigB k.1.toNat 4 ++ bigB (n64 k.2) 8
theorem keyB_length (k : KEY) : (keyB k).length = 12 := by simp [keyB, bigB_length]
/-- the bytes of the first i children -/
def kidsB (ks : List KEY) (kids : List Int) : Nat → List UInt8
  | 0 => []
  | i + 1 => kidsB ks kids i ++ (keyB (ks.getD i (0, 0)) ++ bigB (kids.getD i 0).toNat 2)
theorem kidsB_length (ks : List KEY) (kids : List Int) : ∀ i, (kidsB ks kids i).length = i * 14
  | 0 => rfl
  | i + 1 => by rw [kidsB, List.length_append, kidsB_length ks kids i, List.length_append, keyB_length, bigB_length]; omega
def putI (ks : List KEY) (kids : List Int) : List UInt8 := UInt8.ofNat kids.length :: kidsB ks kids kids.length
/-- a number of 64 bits, with a sign -/
def s64 (n : Nat) : Int := if n < 9223372036854775808 then (n : Int) else (n : Int) - 18446744073709551616
def keyG (l : List UInt8) (i : Nat) : KEY := ((numB ((l.drop (1 + i * 14)).take 4) : Int), s64 (numB ((l.drop (5 + i * 14)).take 8)))
def kidG (l : List UInt8) (i : Nat) : Int := (numB ((l.drop (13 + i * 14)).take 2) : Int)
def keysG (l : List UInt8) (i : Nat) : List KEY := (List.range i).map (keyG l)
def kidsG (l : List UInt8) (i : Nat) : List Int := (List.range i).map (kidG l)
def cntG (l : List UInt8) : Nat := (l.getD 0 0).toNat
def getI (l : List UInt8) : (List KEY × List Int) × Nat :=
  if l.length = 0 ∨ l.length ≠ 1 + cntG l * 14 then (([], []), 3)
  else if innerB (keysG l (cntG l)) (kidsG l (cntG l)) = true ∧ putI (keysG l (cntG l)) (kidsG l (cntG l)) = l then ((keysG l (cntG l), kidsG l (cntG l)), 0) else (([], []), 3)
def nd1k : List KEY := [(1, 2)]
def nd1c : List Int := [5]
theorem nd1_ok : innerB nd1k nd1c = true := by decide
theorem nd1_put : putI nd1k nd1c = [1, 0, 0, 0, 1, 0, 0, 0, 0, 0, 0, 0, 2, 0, 5] := by decide
theorem nd1_get : getI (putI nd1k nd1c) = ((nd1k, nd1c), 0) := by decide
end Go.Gv
end
section
/- node: leaves, in plain terms. -/
namespace Go.Gv
set_option linter.unusedVariables false
set_option linter.unusedSimpArgs false

structure ENT where
  key : KEY
  fin : Int
  addr : Int
  len : Int
  count : Int
  codec : Int
  crc : Nat
def ent0 : ENT := ⟨(0, 0), 0, 0, 0, 0, 0, 0⟩
def pagesE (n : Int) : Int := (n + 255) / 256
def entOk (e : ENT) : Bool := keyOk e.key && decide (e.key.2 ≤ e.fin) && betw e.addr 2 511 && betw e.len 1 65535 && decide (e.addr + pagesE e.len ≤ 512) && betw e.count 1 200 && betw e.codec 0 15
def afterE (p e : ENT) : Bool := lessK p.key e.key && !(decide (p.key.1 = e.key.1) && decide (e.key.2 ≤ p.fin))
def entAt (E : List ENT) (i : Nat) : Bool := entOk (E.getD i ent0) && (decide (i = 0) || afterE (E.getD (i - 1) ent0) (E.getD i ent0))
def entsTo (E : List ENT) : Nat → Bool
  | 0 => true
  | i + 1 => entsTo E i && entAt E i
def leafB (E : List ENT) : Bool := entsTo E E.length && betw (E.length : Int) 1 7
theorem entsTo_mono (ks : List ENT) {i : Nat} (h : entsTo ks i = false) : ∀ j, i ≤ j → entsTo ks j = false
  | 0, hj => by obtain rfl : i = 0 := by omega
                exact h
  | j + 1, hj => by
    by_cases e : i = j + 1
    · subst e; exact h
    · rw [entsTo, entsTo_mono ks h j (by omega), Bool.false_and]
theorem entAt_lt {E : List ENT} {i n : Nat} (h : entAt E i = false) (hi : i < n) : entsTo E n = false := entsTo_mono E (i := i + 1) (by rw [entsTo, h, Bool.and_false]) n (by omega)
theorem entsTo_at {E : List ENT} : ∀ {n : Nat}, entsTo E n = true → ∀ i, i < n → entAt E i = true
  | n + 1, h, i, hi => by
    rw [entsTo, Bool.and_eq_true] at h
    by_cases e : i = n
    · subst e; exact h.2
    · exact entsTo_at h.1 i (by omega)
theorem leaf_no {E : List ENT} (h : entsTo E E.length = false) : leafB E = false := by rw [leafB, h]; rfl
/-- a node may be -/
def rightN (leaf : Bool) (E : List ENT) (K : List KEY) (D : List Int) : Bool :=
  if leaf then decide (K.length = 0) && (decide (D.length = 0) && leafB E) else decide (E.length = 0) && innerB K D
def entB (e : ENT) : List UInt8 := keyB e.key ++ bigB (n64 e.fin) 8 ++ bigB e.addr.toNat 2 ++ bigB e.len.toNat 2 ++ [UInt8.ofNat e.count.toNat, UInt8.ofNat e.codec.toNat] ++ bigB e.crc 4
theorem entB_length (e : ENT) : (entB e).length = 30 := by simp [entB, keyB_length, bigB_length]
def entsB (E : List ENT) : Nat → List UInt8
  | 0 => []
  | i + 1 => entsB E i ++ entB (E.getD i ent0)
theorem entsB_length (E : List ENT) : ∀ i, (entsB E i).length = i * 30
  | 0 => rfl
  | i + 1 => by rw [entsB, List.length_append, entsB_length E i, entB_length]; omega
def putL (E : List ENT) : List UInt8 := UInt8.ofNat E.length :: entsB E E.length
def putN (leaf : Bool) (E : List ENT) (K : List KEY) (D : List Int) : List UInt8 := if leaf then putL E else putI K D
/-- the entry that stands at the head of bytes -/
def entP (l : List UInt8) : ENT := ⟨((numB (l.take 4) : Int), s64 (numB ((l.drop 4).take 8))), s64 (numB ((l.drop 12).take 8)), (numB ((l.drop 20).take 2) : Int), (numB ((l.drop 22).take 2) : Int), (numB ((l.drop 24).take 1) : Int), (numB ((l.drop 25).take 1) : Int), numB ((l.drop 26).take 4)⟩
def entsG (l : List UInt8) (i : Nat) : List ENT := (List.range i).map fun k => entP (l.drop (1 + k * 30))
theorem entsG_length (l : List UInt8) (i : Nat) : (entsG l i).length = i := by simp [entsG]
theorem entsG_succ (l : List UInt8) (i : Nat) : entsG l (i + 1) = entsG l i ++ [entP (l.drop (1 + i * 30))] := by rw [entsG, List.range_succ, List.map_append]; rfl
def getL (l : List UInt8) : List ENT × Nat :=
  if l.length = 0 ∨ l.length ≠ 1 + cntG l * 30 then ([], 3)
  else if leafB (entsG l (cntG l)) = true ∧ putL (entsG l (cntG l)) = l then (entsG l (cntG l), 0) else ([], 3)
/-- Go's own bounds of numbers -/
def i64R (n : Int) : Prop := -9223372036854775808 ≤ n ∧ n ≤ 9223372036854775807
def entR (e : ENT) : Prop := i64R e.key.2 ∧ i64R e.fin ∧ e.crc < 4294967296
def keyR (k : KEY) : Prop := i64R k.2
theorem s64_n64 {t : Int} (h : i64R t) : s64 (n64 t) = t := by
  unfold i64R at h
  unfold s64 n64
  split <;> omega
theorem n64_lt (t : Int) : n64 t < 18446744073709551616 := by unfold n64; omega
theorem n64_mod (t : Int) : n64 t % 256 ^ 8 = n64 t := Nat.mod_eq_of_lt (n64_lt t)
theorem numB_one (c : UInt8) : numB [c] = c.toNat := by simp [numB]
theorem byte_of {n : Int} (h0 : 0 ≤ n) (h1 : n ≤ 255) : ((UInt8.ofNat n.toNat).toNat : Int) = n := by
  rw [UInt8.toNat_ofNat']; omega
theorem entOk_spec {e : ENT} (h : entOk e = true) : (0 ≤ e.key.1 ∧ e.key.1 ≤ 4294967295) ∧ e.key.2 ≤ e.fin ∧ (2 ≤ e.addr ∧ e.addr ≤ 511) ∧ (1 ≤ e.len ∧ e.len ≤ 65535) ∧ e.addr + pagesE e.len ≤ 512 ∧ (1 ≤ e.count ∧ e.count ≤ 200) ∧ 0 ≤ e.codec ∧ e.codec ≤ 15 := by
  simp only [entOk, keyOk, betw, Bool.and_eq_true, decide_eq_true_eq] at h
  obtain ⟨⟨⟨⟨⟨⟨h1, h2⟩, h3⟩, h4⟩, h5⟩, h6⟩, h7⟩ := h
  exact ⟨h1, h2, h3, h4, h5, h6, h7⟩
theorem seg0 {α : Type} (B C : List α) (n : Nat) (hB : B.length = n) : (B ++ C).take n = B := by subst hB; rw [List.take_left]
theorem ent_back (e : ENT) (rest : List UInt8) (h : entOk e = true) (hr : entR e) : entP (entB e ++ rest) = e := by
  obtain ⟨h1, h2, h3, h4, h5, h6, h7⟩ := entOk_spec h
  obtain ⟨r1, r2, r3⟩ := hr
  have k1 : (entB e ++ rest).take 4 = bigB e.key.1.toNat 4 := by
    rw [show entB e ++ rest = bigB e.key.1.toNat 4 ++ (bigB (n64 e.key.2) 8 ++ (bigB (n64 e.fin) 8 ++ (bigB e.addr.toNat 2 ++ (bigB e.len.toNat 2 ++ ([UInt8.ofNat e.count.toNat, UInt8.ofNat e.codec.toNat] ++ (bigB e.crc 4 ++ rest)))))) by simp [entB, keyB, List.append_assoc]]
    exact seg0 _ _ _ (bigB_length _ _)
  have k2 : ((entB e ++ rest).drop 4).take 8 = bigB (n64 e.key.2) 8 := by
    rw [show entB e ++ rest = bigB e.key.1.toNat 4 ++ bigB (n64 e.key.2) 8 ++ (bigB (n64 e.fin) 8 ++ (bigB e.addr.toNat 2 ++ (bigB e.len.toNat 2 ++ ([UInt8.ofNat e.count.toNat, UInt8.ofNat e.codec.toNat] ++ (bigB e.crc 4 ++ rest))))) by simp [entB, keyB, List.append_assoc]]
    exact seg _ _ _ _ _ (bigB_length _ _) (bigB_length _ _)
  have k3 : ((entB e ++ rest).drop 12).take 8 = bigB (n64 e.fin) 8 := by
    rw [show entB e ++ rest = keyB e.key ++ bigB (n64 e.fin) 8 ++ (bigB e.addr.toNat 2 ++ (bigB e.len.toNat 2 ++ ([UInt8.ofNat e.count.toNat, UInt8.ofNat e.codec.toNat] ++ (bigB e.crc 4 ++ rest)))) by simp [entB, List.append_assoc]]
    exact seg _ _ _ _ _ (keyB_length _) (bigB_length _ _)
  have k4 : ((entB e ++ rest).drop 20).take 2 = bigB e.addr.toNat 2 := by
    rw [show entB e ++ rest = (keyB e.key ++ bigB (n64 e.fin) 8) ++ bigB e.addr.toNat 2 ++ (bigB e.len.toNat 2 ++ ([UInt8.ofNat e.count.toNat, UInt8.ofNat e.codec.toNat] ++ (bigB e.crc 4 ++ rest))) by simp [entB, List.append_assoc]]
    exact seg _ _ _ _ _ (by simp [keyB_length, bigB_length]) (bigB_length _ _)
  have k5 : ((entB e ++ rest).drop 22).take 2 = bigB e.len.toNat 2 := by
    rw [show entB e ++ rest = (keyB e.key ++ bigB (n64 e.fin) 8 ++ bigB e.addr.toNat 2) ++ bigB e.len.toNat 2 ++ ([UInt8.ofNat e.count.toNat, UInt8.ofNat e.codec.toNat] ++ (bigB e.crc 4 ++ rest)) by simp [entB, List.append_assoc]]
    exact seg _ _ _ _ _ (by simp [keyB_length, bigB_length]) (bigB_length _ _)
  have k6 : ((entB e ++ rest).drop 24).take 1 = [UInt8.ofNat e.count.toNat] := by
    rw [show entB e ++ rest = (keyB e.key ++ bigB (n64 e.fin) 8 ++ bigB e.addr.toNat 2 ++ bigB e.len.toNat 2) ++ [UInt8.ofNat e.count.toNat] ++ ([UInt8.ofNat e.codec.toNat] ++ (bigB e.crc 4 ++ rest)) by simp [entB, List.append_assoc]]
    exact seg _ _ _ _ _ (by simp [keyB_length, bigB_length]) rfl
  have k7 : ((entB e ++ rest).drop 25).take 1 = [UInt8.ofNat e.codec.toNat] := by
    rw [show entB e ++ rest = (keyB e.key ++ bigB (n64 e.fin) 8 ++ bigB e.addr.toNat 2 ++ bigB e.len.toNat 2 ++ [UInt8.ofNat e.count.toNat]) ++ [UInt8.ofNat e.codec.toNat] ++ (bigB e.crc 4 ++ rest) by simp [entB, List.append_assoc]]
    exact seg _ _ _ _ _ (by simp [keyB_length, bigB_length]) rfl
  have k8 : ((entB e ++ rest).drop 26).take 4 = bigB e.crc 4 := by
    rw [show entB e ++ rest = (keyB e.key ++ bigB (n64 e.fin) 8 ++ bigB e.addr.toNat 2 ++ bigB e.len.toNat 2 ++ [UInt8.ofNat e.count.toNat, UInt8.ofNat e.codec.toNat]) ++ bigB e.crc 4 ++ rest by simp [entB, List.append_assoc]]
    exact seg _ _ _ _ _ (by simp [keyB_length, bigB_length]) (bigB_length _ _)
  rw [entP, k1, k2, k3, k4, k5, k6, k7, k8, num_big, num_big, num_big, num_big, num_big, numB_one, numB_one, num_big, n64_mod, n64_mod, s64_n64 r1, s64_n64 r2, byte_of (by omega) (by omega), byte_of h7.1 (by omega)]
  obtain ⟨⟨a, b⟩, c, d, f, g, m, n⟩ := e
  simp only at h1 h3 h4 r3 ⊢
  congr 1
  · congr 1; omega
  · omega
  · omega
  · omega
theorem entsB_at (E : List ENT) (rest : List UInt8) : ∀ n i, i < n → ∃ more, (entsB E n ++ rest).drop (i * 30) = entB (E.getD i ent0) ++ more
  | n + 1, i, hi => by
    by_cases e : i = n
    · subst e
      refine ⟨rest, ?_⟩
      rw [entsB, List.append_assoc, ← entsB_length E i, List.drop_left]
    · obtain ⟨m, hm⟩ := entsB_at E (entB (E.getD n ent0) ++ rest) n i (by omega)
      exact ⟨m, by rw [entsB, List.append_assoc]; exact hm⟩
theorem leaf_spec {E : List ENT} (h : leafB E = true) : entsTo E E.length = true ∧ 1 ≤ E.length ∧ E.length ≤ 7 := by
  simp only [leafB, betw, Bool.and_eq_true, decide_eq_true_eq] at h
  exact ⟨h.1, by omega, by omega⟩
theorem putL_length (E : List ENT) : (putL E).length = 1 + E.length * 30 := by rw [putL, List.length_cons, entsB_length]; omega
theorem putI_length (K : List KEY) (D : List Int) : (putI K D).length = 1 + D.length * 14 := by rw [putI, List.length_cons, kidsB_length]; omega
theorem cnt_putL {E : List ENT} (h : E.length ≤ 255) : cntG (putL E) = E.length := by
  show (UInt8.ofNat E.length).toNat = _
  rw [UInt8.toNat_ofNat']; omega
theorem cnt_putI {K : List KEY} {D : List Int} (h : D.length ≤ 255) : cntG (putI K D) = D.length := by
  show (UInt8.ofNat D.length).toNat = _
  rw [UInt8.toNat_ofNat']; omega
theorem ents_back {E : List ENT} (h : leafB E = true) (hr : ∀ e ∈ E, entR e) : entsG (putL E) E.length = E := by
  obtain ⟨h1, h2, h3⟩ := leaf_spec h
  apply List.ext_getElem
  · rw [entsG_length]
  · intro i g1 g2
    have hgd : E.getD i ent0 = E[i] := by rw [List.getD_eq_getElem?_getD, List.getElem?_eq_getElem g2]; rfl
    have hk := entsTo_at h1 i g2
    rw [entAt, Bool.and_eq_true, hgd] at hk
    obtain ⟨m, hm⟩ := entsB_at E [] E.length i g2
    rw [List.append_nil, hgd] at hm
    simp only [entsG, List.getElem_map, List.getElem_range]
    rw [putL, show 1 + i * 30 = i * 30 + 1 by omega, List.drop_succ_cons, hm]
    exact ent_back _ _ hk.1 (hr _ (List.getElem_mem g2))
theorem get_putL {E : List ENT} (h : leafB E = true) (hr : ∀ e ∈ E, entR e) : getL (putL E) = (E, 0) := by
  obtain ⟨h1, h2, h3⟩ := leaf_spec h
  have hc := cnt_putL (E := E) (by omega)
  have hl := putL_length E
  have hb := ents_back h hr
  rw [getL, hc, hb, if_neg (by omega), if_pos ⟨h, rfl⟩]
theorem getI_putL {E : List ENT} (h : leafB E = true) : getI (putL E) = (([], []), 3) := by
  obtain ⟨h1, h2, h3⟩ := leaf_spec h
  have hc := cnt_putL (E := E) (by omega)
  have hl := putL_length E
  rw [getI, hc, if_pos (by omega)]
theorem innerB_spec {ks : List KEY} {kids : List Int} (h : innerB ks kids = true) : keysTo ks ks.length = true ∧ kidsTo kids kids.length = true ∧ ks.length = kids.length ∧ 1 ≤ kids.length ∧ kids.length ≤ 16 := by
  simp only [innerB, betw, Bool.and_eq_true, decide_eq_true_eq] at h
  refine ⟨h.1.1.1, h.1.1.2, h.1.2, ?_, ?_⟩ <;> omega
theorem getL_putI {K : List KEY} {D : List Int} (h : innerB K D = true) : getL (putI K D) = ([], 3) := by
  obtain ⟨h1, h2, h3, h4, h5⟩ := innerB_spec h
  have hc := cnt_putI (K := K) (D := D) (by omega)
  have hl := putI_length K D
  rw [getL, hc, if_pos (by omega)]
theorem kidsB_at (K : List KEY) (D : List Int) (rest : List UInt8) : ∀ n i, i < n → ∃ more, (kidsB K D n ++ rest).drop (i * 14) = keyB (K.getD i (0, 0)) ++ bigB (D.getD i 0).toNat 2 ++ more
  | n + 1, i, hi => by
    by_cases e : i = n
    · subst e
      refine ⟨rest, ?_⟩
      rw [kidsB, List.append_assoc, ← kidsB_length K D i, List.drop_left]
    · obtain ⟨m, hm⟩ := kidsB_at K D (keyB (K.getD n (0, 0)) ++ bigB (D.getD n 0).toNat 2 ++ rest) n i (by omega)
      exact ⟨m, by rw [kidsB, List.append_assoc]; exact hm⟩
theorem keysTo_at' {ks : List KEY} : ∀ {n : Nat}, keysTo ks n = true → ∀ i, i < n → keyAt ks i = true
  | n + 1, h, i, hi => by
    rw [keysTo, Bool.and_eq_true] at h
    by_cases e : i = n
    · subst e; exact h.2
    · exact keysTo_at' h.1 i (by omega)
theorem kidsTo_at' {ks : List Int} : ∀ {n : Nat}, kidsTo ks n = true → ∀ i, i < n → kidAt ks i = true
  | n + 1, h, i, hi => by
    rw [kidsTo, Bool.and_eq_true] at h
    by_cases e : i = n
    · subst e; exact h.2
    · exact kidsTo_at' h.1 i (by omega)
theorem kid_back (k : KEY) (d : Int) (m : List UInt8) (hk : keyOk k = true) (hr : keyR k) (hd : 0 ≤ d ∧ d ≤ 65535) :
    ((numB ((keyB k ++ bigB d.toNat 2 ++ m).take 4) : Int), s64 (numB (((keyB k ++ bigB d.toNat 2 ++ m).drop 4).take 8))) = k ∧ (numB (((keyB k ++ bigB d.toNat 2 ++ m).drop 12).take 2) : Int) = d := by
  have hk' : 0 ≤ k.1 ∧ k.1 ≤ 4294967295 := by simpa [keyOk, betw] using hk
  have k1 : (keyB k ++ bigB d.toNat 2 ++ m).take 4 = bigB k.1.toNat 4 := by
    rw [show keyB k ++ bigB d.toNat 2 ++ m = bigB k.1.toNat 4 ++ (bigB (n64 k.2) 8 ++ (bigB d.toNat 2 ++ m)) by simp [keyB, List.append_assoc]]
    exact seg0 _ _ _ (bigB_length _ _)
  have k2 : ((keyB k ++ bigB d.toNat 2 ++ m).drop 4).take 8 = bigB (n64 k.2) 8 := by
    rw [show keyB k ++ bigB d.toNat 2 ++ m = bigB k.1.toNat 4 ++ bigB (n64 k.2) 8 ++ (bigB d.toNat 2 ++ m) by simp [keyB, List.append_assoc]]
    exact seg _ _ _ _ _ (bigB_length _ _) (bigB_length _ _)
  have k3 : ((keyB k ++ bigB d.toNat 2 ++ m).drop 12).take 2 = bigB d.toNat 2 := seg _ _ _ _ _ (keyB_length _) (bigB_length _ _)
  rw [k1, k2, k3, num_big, num_big, num_big, n64_mod, s64_n64 hr]
  refine ⟨Prod.ext ?_ rfl, ?_⟩
  · show ((k.1.toNat % 256 ^ 4 : Nat) : Int) = k.1; omega
  · omega
theorem inner_back {K : List KEY} {D : List Int} (h : innerB K D = true) (hr : ∀ k ∈ K, keyR k) : keysG (putI K D) D.length = K ∧ kidsG (putI K D) D.length = D := by
  obtain ⟨h1, h2, h3, h4, h5⟩ := innerB_spec h
  have key : ∀ i (g1 : i < K.length) (g2 : i < D.length), keyG (putI K D) i = K[i] ∧ kidG (putI K D) i = D[i] := fun i g1 g2 => by
    have hgk : K.getD i (0, 0) = K[i] := by rw [List.getD_eq_getElem?_getD, List.getElem?_eq_getElem g1]; rfl
    have hgd : D.getD i 0 = D[i] := by rw [List.getD_eq_getElem?_getD, List.getElem?_eq_getElem g2]; rfl
    have hk := keysTo_at' h1 i g1
    have hd := kidsTo_at' h2 i g2
    rw [keyAt, Bool.and_eq_true, hgk] at hk
    rw [kidAt, Bool.and_eq_true, hgd] at hd
    have hd' : 2 ≤ D[i] ∧ D[i] ≤ 511 := by simpa [betw] using hd.1
    obtain ⟨m, hm⟩ := kidsB_at K D [] D.length i g2
    rw [List.append_nil, hgk, hgd] at hm
    have hb := kid_back K[i] D[i] m hk.1 (hr _ (List.getElem_mem g1)) ⟨by omega, by omega⟩
    rw [← hm] at hb
    have hdr : ∀ j, (putI K D).drop (1 + j) = (kidsB K D D.length).drop j := fun j => by rw [putI, Nat.add_comm, List.drop_succ_cons]
    have e1 : (putI K D).drop (1 + i * 14) = (kidsB K D D.length).drop (i * 14) := hdr _
    have e2 : (putI K D).drop (5 + i * 14) = ((kidsB K D D.length).drop (i * 14)).drop 4 := by rw [show 5 + i * 14 = 1 + (i * 14 + 4) by omega, hdr, List.drop_drop]
    have e3 : (putI K D).drop (13 + i * 14) = ((kidsB K D D.length).drop (i * 14)).drop 12 := by rw [show 13 + i * 14 = 1 + (i * 14 + 12) by omega, hdr, List.drop_drop]
    rw [keyG, kidG, e1, e2, e3]
    exact hb
  constructor
  · apply List.ext_getElem
    · rw [keysG, List.length_map, List.length_range, h3]
    · intro i g1 g2
      simp only [keysG, List.getElem_map, List.getElem_range]
      exact (key i g2 (by omega)).1
  · apply List.ext_getElem
    · rw [kidsG, List.length_map, List.length_range]
    · intro i g1 g2
      simp only [kidsG, List.getElem_map, List.getElem_range]
      exact (key i (by omega) g2).2
theorem get_putI {K : List KEY} {D : List Int} (h : innerB K D = true) (hr : ∀ k ∈ K, keyR k) : getI (putI K D) = ((K, D), 0) := by
  obtain ⟨h1, h2, h3, h4, h5⟩ := innerB_spec h
  have hc := cnt_putI (K := K) (D := D) (by omega)
  have hl := putI_length K D
  obtain ⟨b1, b2⟩ := inner_back h hr
  rw [getI, hc, b1, b2, if_neg (by omega), if_pos ⟨h, rfl⟩]
end Go.Gv
end
