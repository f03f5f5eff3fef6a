/- The document's assembler: contract. -/
import Derived.Test.YtloaknocdnpedaaDoorDec
import Derived.Test.YtloaknocdnpedaaDoorEngMore
set_option linter.all false
namespace Go.Proofs
open Go.Eng
open Classical
set_option linter.unusedVariables false
set_option maxRecDepth 100000
set_option maxHeartbeats 4000000
abbrev ltr (x : UInt8) : Prop := 97 ≤ x.toNat ∧ x.toNat ≤ 122
structure Ltrs (w : ByteArray) : Prop where
  ge : 1 ≤ w.size
  le : w.size ≤ 16
  all : ∀ i, i < w.size → ltr (sAt w i)
structure NumA (s : ByteArray) : Prop where
  ne : 1 ≤ s.size
  le : s.size ≤ 5
  lead : 2 ≤ s.size → (sAt s 0).toNat ≠ 48
  dig : ∀ i, i < s.size → isDig (sAt s i)
noncomputable def numA (s : ByteArray) (most : Int) : Int := if NumA s ∧ numV s.data.toList ≤ most then numV s.data.toList else -1
theorem numA_ge {s : ByteArray} (h : NumA s) : 0 ≤ numV s.data.toList := by
  have hl := size_list s
  have key : ∀ k, k ≤ s.size → 0 ≤ numV (s.data.toList.take k) := by
    intro k
    induction k with
    | zero => intro _; exact Int.le_refl _
    | succ k ih =>
      intro hk
      have h1 := ih (by omega)
      have hd := h.dig k (by omega)
      rw [numV_take (by omega)]
      omega
  have := key s.size (Nat.le_refl _)
  rw [← hl, List.take_length] at this
  exact this
theorem numA_P (s : ByteArray) {m : Int} (hm : 0 ≤ m) : -1 ≤ numA s m ∧ numA s m ≤ m := by
  unfold numA
  by_cases h : NumA s ∧ numV s.data.toList ≤ m
  · rw [if_pos h]
    have := numA_ge h.1
    omega
  · rw [if_neg h]; omega
noncomputable def regA (s : ByteArray) : Int := if s.size = 2 ∧ (sAt s 0).toNat = 114 then numA (s.extract 1 s.size) 7 else -1
theorem regA_P (s : ByteArray) : -1 ≤ regA s ∧ regA s ≤ 7 := by
  unfold regA
  split
  · exact numA_P _ (by omega)
  · omega
def codeL : List ByteArray := [⟨#[115, 116, 111, 112]⟩, ⟨#[115, 101, 116]⟩, ⟨#[109, 111, 118, 101]⟩, ⟨#[97, 100, 100]⟩, ⟨#[115, 117, 98]⟩, ⟨#[97, 110, 100]⟩, ⟨#[120, 111, 114]⟩, ⟨#[114, 101, 97, 100]⟩, ⟨#[119, 114, 105, 116, 101]⟩, ⟨#[114, 101, 97, 100, 50]⟩, ⟨#[119, 114, 105, 116, 101, 50]⟩, ⟨#[106, 117, 109, 112]⟩, ⟨#[122, 101, 114, 111]⟩, ⟨#[108, 101, 115, 115]⟩, ⟨#[99, 97, 108, 108]⟩, ⟨#[114, 101, 115, 116]⟩]
def codeI (w : ByteArray) : Int := Lib.idxOfS codeL w
abbrev codeN (c : Nat) : ByteArray := codeL.getD c ByteArray.empty
theorem code_at {c : Nat} (h : c < 16) : codeI (codeN c) = c := by
  have key : ∀ i : Fin 16, codeI (codeN i.val) = (i.val : Int) := by decide +kernel
  exact key ⟨c, h⟩
theorem code_cases (w : ByteArray) : codeI w = -1 ∧ (∀ c, c < 16 → codeN c ≠ w) ∨ ∃ c : Nat, c < 16 ∧ codeI w = c ∧ codeN c = w := by
  by_cases hx : ∃ c, c < 16 ∧ codeN c = w
  · obtain ⟨c, hc, rfl⟩ := hx
    exact .inr ⟨c, hc, code_at hc, rfl⟩
  · refine .inl ⟨?_, fun c hc e => hx ⟨c, hc, e⟩⟩
    have h := Lib.idxOfS_miss codeL 16 w (fun j hj e => hx ⟨j, hj, e⟩)
    exact h
theorem code_iff {w : ByteArray} {c : Nat} (h : c < 16) : codeN c = w ↔ codeI w = c := by
  constructor
  · rintro rfl; exact code_at h
  · intro e
    rcases code_cases w with ⟨h0, _⟩ | ⟨c', _, h1, h2⟩
    · omega
    · have : c = c' := by omega
      rw [this]; exact h2
theorem codeI_P (w : ByteArray) : -1 ≤ codeI w ∧ codeI w ≤ 15 := by
  rcases code_cases w with ⟨h0, _⟩ | ⟨c', _, h1, h2⟩ <;> omega
/-- a line: a label, or the parts that it makes -/
structure Ln where
  lab : ByteArray
  nums : List Int
  szs : List Int
  nam : ByteArray
  bad : Bool
abbrev noB : ByteArray := ⟨#[]⟩
def badL : Ln := ⟨noB, [], [], noB, true⟩
def nilL : Ln := ⟨noB, [], [], noB, false⟩
noncomputable def valF (l : Ln) (w : ByteArray) : Ln :=
  if Ltrs w then ⟨l.lab, l.nums ++ [0], l.szs ++ [2], w, l.bad⟩ else ⟨l.lab, l.nums ++ [numA w 65535], l.szs ++ [2], l.nam, l.bad || decide (numA w 65535 < 0)⟩
abbrev wds (l : List UInt8) : List ByteArray := (splL 32 l).map bsL
abbrev wat (w : List ByteArray) (i : Nat) : ByteArray := w.getD i strE.d
def zeroB : ByteArray := ⟨#[48]⟩
noncomputable def insF (c : Int) (w : List ByteArray) : Ln :=
  if c = 0 ∨ c = 15 then (if w.length = 1 then valF ⟨noB, [c, 0], [1, 1], noB, false⟩ zeroB else badL)
  else if c = 11 then (if w.length = 2 then valF ⟨noB, [c, 0], [1, 1], noB, false⟩ (wat w 1) else badL)
  else if w.length = 3 then
    (if 2 ≤ c ∧ c ≤ 10 then ⟨noB, [c, regA (wat w 1), regA (wat w 2)], [1, 1, 2], noB, decide (regA (wat w 1) < 0) || decide (regA (wat w 2) < 0)⟩
     else if c = 14 ∧ Ltrs (wat w 2) then badL
     else valF ⟨noB, [c, regA (wat w 1)], [1, 1], noB, decide (regA (wat w 1) < 0)⟩ (wat w 2))
  else badL
def byteB : ByteArray := ⟨#[98, 121, 116, 101]⟩
def twoB : ByteArray := ⟨#[116, 119, 111]⟩
def labP (w : ByteArray) : Prop := 1 < w.size ∧ (sAt w (w.size - 1)).toNat = 58 ∧ Ltrs (w.extract 0 (w.size - 1))
noncomputable def wlnF (w : List ByteArray) : Ln :=
  if w.length = 1 ∧ labP (wat w 0) then ⟨(wat w 0).extract 0 ((wat w 0).size - 1), [], [], noB, false⟩
  else if wat w 0 = byteB ∧ w.length = 2 then ⟨noB, [numA (wat w 1) 255], [1], noB, decide (numA (wat w 1) 255 < 0)⟩
  else if wat w 0 = twoB ∧ w.length = 2 then valF nilL (wat w 1)
  else if 0 ≤ codeI (wat w 0) then insF (codeI (wat w 0)) w else badL
noncomputable def lnF (l : List UInt8) : Ln := if l = [] ∨ (l.headD 0).toNat = 35 then nilL else wlnF (wds l)
/-- what a line is made of: at most three parts, of one or two bytes -/
structure LnOk (l : Ln) : Prop where
  len : l.nums.length = l.szs.length
  most : l.nums.length ≤ 3
  num : ∀ x ∈ l.nums, -1 ≤ x ∧ x ≤ 65535
  sz : ∀ x ∈ l.szs, x = 1 ∨ x = 2
  nam : l.nam.size ≤ 16
  nam1 : l.nam ≠ noB → Ltrs l.nam ∧ 1 ≤ l.nums.length
  lab : l.lab.size ≤ 16
  lab1 : l.lab ≠ noB → Ltrs l.lab ∧ l.nums = [] ∧ l.nam = noB
theorem ok_nil : LnOk nilL := ⟨rfl, by decide, by simp [nilL], by simp [nilL], by decide, fun h => absurd rfl h, by decide, fun h => absurd rfl h⟩
theorem ok_bad : LnOk badL := ⟨rfl, by decide, by simp [badL], by simp [badL], by decide, fun h => absurd rfl h, by decide, fun h => absurd rfl h⟩
theorem ok_val {l : Ln} (h : LnOk l) (hl : l.nums.length ≤ 2) (hlab : l.lab = noB) (w : ByteArray) : LnOk (valF l w) := by
  unfold valF
  by_cases hw : Ltrs w
  · rw [if_pos hw]
    refine ⟨by simp [h.len], by simp; omega, fun x hx => ?_, fun x hx => ?_, hw.le, fun _ => ⟨hw, by simp⟩, h.lab, fun h' => absurd hlab h'⟩
    · rcases List.mem_append.1 hx with hx | hx
      · exact h.num x hx
      · rw [List.mem_singleton.1 hx]; omega
    · rcases List.mem_append.1 hx with hx | hx
      · exact h.sz x hx
      · rw [List.mem_singleton.1 hx]; exact .inr rfl
  · rw [if_neg hw]
    refine ⟨by simp [h.len], by simp; omega, fun x hx => ?_, fun x hx => ?_, h.nam, fun h' => ⟨(h.nam1 h').1, by simp⟩, h.lab, fun h' => absurd hlab h'⟩
    · rcases List.mem_append.1 hx with hx | hx
      · exact h.num x hx
      · rw [List.mem_singleton.1 hx]; exact numA_P w (by omega)
    · rcases List.mem_append.1 hx with hx | hx
      · exact h.sz x hx
      · rw [List.mem_singleton.1 hx]; exact .inr rfl
theorem ok_mk {nums szs : List Int} {b : Bool} (hl : nums.length = szs.length) (h3 : nums.length ≤ 3) (hn : ∀ x ∈ nums, -1 ≤ x ∧ x ≤ 65535) (hs : ∀ x ∈ szs, x = 1 ∨ x = 2) : LnOk ⟨noB, nums, szs, noB, b⟩ :=
  ⟨hl, h3, hn, hs, Nat.zero_le _, fun h => absurd rfl h, Nat.zero_le _, fun h => absurd rfl h⟩
theorem ok_base {c x : Int} {b : Bool} (hc : 0 ≤ c ∧ c ≤ 15) (hx : -1 ≤ x ∧ x ≤ 7) : LnOk ⟨noB, [c, x], [1, 1], noB, b⟩ :=
  ok_mk rfl (by simp) (fun y hy => by simp only [List.mem_cons, List.not_mem_nil, or_false] at hy; rcases hy with rfl | rfl <;> omega) (fun y hy => by simp only [List.mem_cons, List.not_mem_nil, or_false] at hy; omega)
theorem ok_ins {c : Int} (hc : 0 ≤ c ∧ c ≤ 15) (w : List ByteArray) : LnOk (insF c w) := by
  have r1 := regA_P (wat w 1)
  have r2 := regA_P (wat w 2)
  unfold insF
  split
  · split
    · exact ok_val (ok_base hc (by omega)) (by simp) rfl _
    · exact ok_bad
  · split
    · split
      · exact ok_val (ok_base hc (by omega)) (by simp) rfl _
      · exact ok_bad
    · split
      · split
        · exact ok_mk rfl (by simp) (fun y hy => by simp only [List.mem_cons, List.not_mem_nil, or_false] at hy; rcases hy with rfl | rfl | rfl <;> omega) (fun y hy => by simp only [List.mem_cons, List.not_mem_nil, or_false] at hy; omega)
        · split
          · exact ok_bad
          · exact ok_val (ok_base hc r1) (by simp) rfl _
      · exact ok_bad
theorem ok_wln (w : List ByteArray) : LnOk (wlnF w) := by
  unfold wlnF
  split
  · rename_i h
    have h2 := h.2.2.2
    exact ⟨rfl, by simp, by simp, by simp, Nat.zero_le _, fun h => absurd rfl h, h2.le, fun _ => ⟨h2, rfl, rfl⟩⟩
  · split
    · have := numA_P (wat w 1) (m := 255) (by omega)
      exact ok_mk rfl (by simp) (fun y hy => by simp only [List.mem_cons, List.not_mem_nil, or_false] at hy; subst hy; omega) (fun y hy => by simp only [List.mem_cons, List.not_mem_nil, or_false] at hy; omega)
    · split
      · exact ok_val ok_nil (by simp [nilL]) rfl _
      · split
        · rename_i h
          have := codeI_P (wat w 0)
          exact ok_ins (by omega) w
        · exact ok_bad
theorem ok_ln (l : List UInt8) : LnOk (lnF l) := by
  unfold lnF
  split
  · exact ok_nil
  · exact ok_wln _
end Go.Proofs
set_option linter.all false
namespace Go.Proofs
open Go.Eng
open Classical
set_option linter.unusedVariables false
set_option maxRecDepth 100000
set_option maxHeartbeats 4000000
abbrev qI (n : Int) : Value := .int .i64 n
abbrev qB (n : Int) : Value := .int .u8 n
def numE : Enc Int := ⟨1, fun n => [qI n], 0, fun _ => rfl, by omega, fun _ => rfl⟩
/-- a line, and where its rows stand -/
structure LnV where
  l : Ln
  a : Option Addr
  c : Nat
  a' : Option Addr
  c' : Nat
def lvE : Enc LnV := ⟨5, fun v => [.string v.l.lab, .slice v.a v.l.nums.length v.c, .slice v.a' v.l.szs.length v.c', .string v.l.nam, .bool v.l.bad], ⟨nilL, none, 0, none, 0⟩, fun _ => rfl, by omega, fun _ => rfl⟩
abbrev lvC (v : LnV) : List Value := [.string v.l.lab, .slice v.a v.l.nums.length v.c, .slice v.a' v.l.szs.length v.c', .string v.l.nam, .bool v.l.bad]
abbrev lvV (v : LnV) : Value := .agg #[.string v.l.lab, .slice v.a v.l.nums.length v.c, .slice v.a' v.l.szs.length v.c', .string v.l.nam, .bool v.l.bad]
structure LnW (v : LnV) : Prop where
  n : v.l.nums.length ≤ v.c
  na : Ad v.a v.l.nums.length
  s : v.l.szs.length ≤ v.c'
  sa : Ad v.a' v.l.szs.length
end Go.Proofs
set_option linter.all false
namespace Go.Proofs
open Go.Eng
open Classical
set_option linter.unusedVariables false
set_option maxRecDepth 100000
set_option maxHeartbeats 4000000
abbrev Tryd.LnP (l : Ln) (L : List HP) := Exs lvV (fun y => own numE 3 y.a y.c y.l.nums :: own numE 3 y.a' y.c' y.l.szs :: L) (fun y => y.l = l ∧ LnW y)
theorem Tryd.LnP.bad {L L' : List HP} (h : Ent L' L) : Tryd.LnP badL L (.agg #[.string ⟨#[]⟩, .slice none 0 0, .slice none 0 0, .string ⟨#[]⟩, .bool true]) L' :=
  Exs.of (⟨badL, none, 0, none, 0⟩ : LnV) (fun w s => Ent.nil w (Ent.nil w (h w s))) ⟨rfl, ⟨Nat.le_refl _, fun h => absurd rfl h, Nat.le_refl _, fun h => absurd rfl h⟩⟩ rfl
theorem Tryd.LnP.nl {L L' : List HP} (h : Ent L' L) : Tryd.LnP nilL L (.agg #[.string ⟨#[]⟩, .slice none 0 0, .slice none 0 0, .string ⟨#[]⟩, .bool false]) L' :=
  Exs.of (⟨nilL, none, 0, none, 0⟩ : LnV) (fun w s => Ent.nil w (Ent.nil w (h w s))) ⟨rfl, ⟨Nat.le_refl _, fun h => absurd rfl h, Nat.le_refl _, fun h => absurd rfl h⟩⟩ rfl
end Go.Proofs
set_option linter.all false
namespace Go.Proofs
open Go.Eng
open Classical
set_option linter.unusedVariables false
set_option maxRecDepth 100000
set_option maxHeartbeats 4000000
theorem wds_ge (l : List UInt8) : 1 ≤ (wds l).length := by simp [wds, splL]
theorem wds_le (s : ByteArray) : (wds s.data.toList).length ≤ s.size + 1 := by
  have hl := size_list s
  have := (spl_len 32 s.data.toList).2.2
  simp only [wds, splL, List.length_map, List.length_cons]
  omega
theorem wat_le (s : ByteArray) (i : Nat) : (wat (wds s.data.toList) i).size ≤ s.size := by
  have hl := size_list s
  obtain ⟨h1, h2, _⟩ := spl_len 32 s.data.toList
  unfold wat wds
  by_cases hi : i < (splL 32 s.data.toList).length
  · have e : ((splL 32 s.data.toList).map bsL).getD i strE.d = bsL ((splL 32 s.data.toList)[i]) := by simp [List.getD, hi]
    rw [e, bsL_size]
    have hm : (splL 32 s.data.toList)[i] ∈ splL 32 s.data.toList := List.getElem_mem _
    rcases List.mem_cons.1 hm with h | h
    · rw [h]; omega
    · have := h2 _ h; omega
  · have e : ((splL 32 s.data.toList).map bsL).getD i strE.d = strE.d := by
      rw [List.getD_eq_getElem?_getD, List.getElem?_eq_none (by simpa using hi)]
      rfl
    rw [e]
    exact Nat.zero_le _
end Go.Proofs
set_option linter.all false
namespace Go.Proofs
open Go.Eng
open Classical
set_option linter.unusedVariables false
set_option maxRecDepth 100000
set_option maxHeartbeats 4000000
def sumI : List Int → Int
  | [] => 0
  | x :: l => x + sumI l
theorem sumI_app (l r : List Int) : sumI (l ++ r) = sumI l + sumI r := by
  induction l with
  | nil => simp [sumI]
  | cons x l ih => simp only [List.cons_append, sumI, ih]; omega
theorem sumI_take {l : List Int} {k : Nat} (hk : k < l.length) : sumI (l.take (k + 1)) = sumI (l.take k) + l.getD k 0 := by
  rw [List.take_add_one, List.getElem?_eq_getElem hk, sumI_app]
  have e : l.getD k 0 = l[k] := by simp [List.getD, hk]
  rw [e]
  simp [sumI]
abbrev szF (l : Ln) : Int := sumI l.szs
theorem sum_bd {l : List Int} (h : ∀ x ∈ l, x = 1 ∨ x = 2) : 0 ≤ sumI l ∧ sumI l ≤ 2 * l.length := by
  induction l with
  | nil => simp [sumI]
  | cons x l ih =>
    have h1 := h x (by simp)
    have h2 := ih (fun y hy => h y (by simp [hy]))
    simp only [sumI, List.length_cons]
    omega
theorem sz_bd {l : Ln} (h : LnOk l) : 0 ≤ szF l ∧ szF l ≤ 6 := by
  have h1 := sum_bd h.sz
  have h2 := h.len
  have h3 := h.most
  show 0 ≤ sumI l.szs ∧ sumI l.szs ≤ 6
  omega
/-- a label's place -/
noncomputable def plcF (w : ByteArray) : Int → List Ln → Int
  | _, [] => -1
  | n, l :: r => if l.lab = w then n else plcF w (n + szF l) r
/-- the lines' rows stand -/
structure LRd (L : List HP) (lvs : List LnV) : Prop where
  n : ∀ i, i < lvs.length → Rd numE L (lvs.getD i lvE.d).a (lvs.getD i lvE.d).l.nums
  s : ∀ i, i < lvs.length → Rd numE L (lvs.getD i lvE.d).a' (lvs.getD i lvE.d).l.szs
theorem LRd.ent {L M : List HP} {lvs : List LnV} (h : LRd L lvs) (k : Ent M L) : LRd M lvs := ⟨fun i hi => (h.n i hi).ent k, fun i hi => (h.s i hi).ent k⟩
theorem LRd.hd {A : HP} {L : List HP} {lvs : List LnV} (h : LRd [A] lvs) : LRd (A :: L) lvs := h.ent fun w s => s.sub (by simp)
theorem LRd.cons {A : HP} {L : List HP} {lvs : List LnV} (h : LRd L lvs) : LRd (A :: L) lvs := h.ent fun w s => s.tail
theorem LRd.app {M L : List HP} {lvs : List LnV} (h : LRd L lvs) : LRd (M ++ L) lvs := h.ent fun w s => s.right
abbrev lnsV (lvs : List LnV) : List Ln := lvs.map (·.l)
theorem lns_snoc (ys : List LnV) (y : LnV) : lnsV (ys ++ [y]) = lnsV ys ++ [y.l] := by simp [lnsV]
theorem lns_at {lvs : List LnV} {k : Nat} (hk : k < lvs.length) : (lnsV lvs).drop k = (lvs.getD k lvE.d).l :: (lnsV lvs).drop (k + 1) := by
  rw [List.drop_eq_getElem_cons (by simpa using hk)]
  congr 1
  simp [List.getD, hk]
/-! the lines of a text, or the first one that is wrong -/
noncomputable def nmsA (all : List Ln) : Nat → List Ln → List Ln × Int × Int
  | _, [] => (all, 0, 0)
  | k, l :: r => if l.nam ≠ noB ∧ plcF l.nam 0 all < 0 then (all, (k : Int) + 1, 14) else nmsA all (k + 1) r
noncomputable def lnsA : List Ln → Int → List (List UInt8) → List Ln × Int × Int
  | acc, _, [] => nmsA acc 0 acc
  | acc, n, l :: r => if (lnF l).bad = true then (acc, (acc.length : Int) + 1, 3)
    else if (lnF l).lab ≠ noB ∧ 0 ≤ plcF (lnF l).lab 0 acc then (acc, (acc.length : Int) + 1, 14)
    else if 1024 < n + szF (lnF l) then (acc, (acc.length : Int) + 1, 4)
    else lnsA (acc ++ [lnF l]) (n + szF (lnF l)) r
noncomputable def linesF (s : List UInt8) : List Ln × Int × Int := lnsA [] 0 (splL 10 s)
structure LsV where
  A : HP
  a : Option Addr
  c : Nat
  v : List LnV
structure LsW (y : LsV) (ls : List Ln) : Prop where
  e : lnsV y.v = ls
  c : y.v.length ≤ y.c
  a : Ad y.a y.v.length
  r : LRd [y.A] y.v
  ok : ∀ l ∈ ls, LnOk l
theorem LRd.snoc {A : HP} {lvs : List LnV} {y : LnV} {t : TypeId} (h : LRd [A] lvs) (hw : LnW y) : LRd [star A (star (own numE t y.a y.c y.l.nums) (own numE t y.a' y.c' y.l.szs))] (lvs ++ [y]) := by
  have e1 : ∀ i, i < lvs.length → (lvs ++ [y]).getD i lvE.d = lvs.getD i lvE.d := fun i hi => by simp [List.getD, List.getElem?_append_left hi]
  have e2 : (lvs ++ [y]).getD lvs.length lvE.d = y := by simp [List.getD]
  refine ⟨fun i hi => ?_, fun i hi => ?_⟩
  · by_cases h1 : i < lvs.length
    · rw [e1 i h1]
      exact (h.n i h1).ent ent_star1
    · have : i = lvs.length := by rw [List.length_append] at hi; simp only [List.length_cons, List.length_nil] at hi; omega
      subst this
      rw [e2]
      exact ((Rd.own 0 rfl hw.na).ent ent_star1).ent ent_star2
  · by_cases h1 : i < lvs.length
    · rw [e1 i h1]
      exact (h.s i h1).ent ent_star1
    · have : i = lvs.length := by rw [List.length_append] at hi; simp only [List.length_cons, List.length_nil] at hi; omega
      subst this
      rw [e2]
      exact ((Rd.own 0 rfl hw.sa).ent ent_star2).ent ent_star2
theorem nl_at {qs : List (List UInt8)} {k : Nat} (hk : k < qs.length) : (qs.map bsL).getD k strE.d = bsL (qs.getD k []) := by
  simp [List.getD, hk]
theorem nl_drop {qs : List (List UInt8)} {k : Nat} (hk : k < qs.length) : qs.drop k = qs.getD k [] :: qs.drop (k + 1) := by
  rw [List.drop_eq_getElem_cons hk]
  simp [List.getD, hk]
theorem spl_sz (c : UInt8) (s : ByteArray) : 1 ≤ (splL c s.data.toList).length ∧ (splL c s.data.toList).length ≤ s.size + 1 ∧ ∀ k, ((splL c s.data.toList).getD k []).length ≤ s.size := by
  have hl := size_list s
  obtain ⟨h1, h2, h3⟩ := spl_len c s.data.toList
  refine ⟨by simp [splL], by simp only [splL, List.length_cons]; omega, fun k => ?_⟩
  by_cases hk : k < (splL c s.data.toList).length
  · have hm : (splL c s.data.toList)[k] ∈ splL c s.data.toList := List.getElem_mem _
    have e : (splL c s.data.toList).getD k [] = (splL c s.data.toList)[k] := by simp [List.getD, hk]
    rw [e]
    rcases List.mem_cons.1 hm with h | h
    · rw [h]; omega
    · have := h2 _ h; omega
  · rw [List.getD_eq_getElem?_getD, List.getElem?_eq_none (by omega)]
    exact Nat.zero_le _
theorem nms_fst (all : List Ln) : ∀ (r : List Ln) (k : Nat), (nmsA all k r).1 = all
  | [], k => rfl
  | l :: r, k => by
    rw [nmsA]
    split
    · rfl
    · exact nms_fst all r (k + 1)
theorem lns_ok : ∀ (r : List (List UInt8)) (acc : List Ln) (n : Int), (∀ l ∈ acc, LnOk l) → ∀ l ∈ (lnsA acc n r).1, LnOk l
  | [], acc, n, h => by rw [lnsA, nms_fst]; exact h
  | x :: r, acc, n, h => by
    rw [lnsA]
    split
    · exact h
    · split
      · exact h
      · split
        · exact h
        · exact lns_ok r _ _ (fun l hl => by
            rcases List.mem_append.1 hl with hl | hl
            · exact h l hl
            · rw [List.mem_singleton.1 hl]; exact ok_ln x)
theorem okAt {lvs : List LnV} {ls : List Ln} (e : lnsV lvs = ls) (h : ∀ l ∈ ls, LnOk l) : ∀ i, i < lvs.length → LnOk (lvs.getD i lvE.d).l := fun i hi => h _ (by
  rw [← e]
  exact List.mem_map.2 ⟨_, getD_mem hi, rfl⟩)
abbrev Tryd.LnP4 (x : Ln) (L : List HP) := Exs (fun q : Option Addr × Nat × Option Addr × Nat => lvV ⟨x, q.1, q.2.1, q.2.2.1, q.2.2.2⟩) (fun q => own numE 3 q.1 q.2.1 x.nums :: own numE 3 q.2.2.1 q.2.2.2 x.szs :: L) (fun q => LnW ⟨x, q.1, q.2.1, q.2.2.1, q.2.2.2⟩)
theorem Tryd.lnp4 {x : Ln} {L : List HP} {v : Value} {L' : List HP} (h : Tryd.LnP x L v L') : Tryd.LnP4 x L v L' := by
  obtain ⟨⟨l, a, c, a', c'⟩, ⟨e, hw⟩, hv, hE⟩ := h
  dsimp only at e
  subst e
  exact Exs.of ((a, c, a', c') : Option Addr × Nat × Option Addr × Nat) hE hw hv
end Go.Proofs
set_option linter.all false
namespace Go.Proofs
open Go.Eng
open Classical
set_option linter.unusedVariables false
set_option maxRecDepth 100000
set_option maxHeartbeats 4000000
def p2 (n : Int) : List UInt8 := [u8of n, u8of (n / 256)]
theorem p2_len (n : Int) : (p2 n).length = 2 := rfl
theorem u8of_mod {a b : Int} (h : a % 256 = b % 256) : u8of a = u8of b := by
  have h1 := u8of_int a
  have h2 := u8of_int b
  exact UInt8.toNat_inj.1 (by omega)
/-! a text's program -/
noncomputable def numAt (all : List Ln) (l : Ln) (k : Nat) : Int := if l.nam ≠ noB ∧ k + 1 = l.nums.length then plcF l.nam 0 all else l.nums.getD k 0
noncomputable def lnB (all : List Ln) (l : Ln) : Nat → List UInt8
  | 0 => []
  | k + 1 => lnB all l k ++ (p2 (numAt all l k)).take (l.szs.getD k 0).toNat
noncomputable def allB (all r : List Ln) : List UInt8 := r.flatMap fun l => lnB all l l.nums.length
noncomputable def asmF (s : List UInt8) : List UInt8 × Int × Int := if (linesF s).2.2 = 0 then (allB (linesF s).1 (linesF s).1, 0, 0) else ([], (linesF s).2.1, (linesF s).2.2)
theorem lnB_len (all : List Ln) (l : Ln) : ∀ k, (lnB all l k).length ≤ 2 * k
  | 0 => by simp [lnB]
  | k + 1 => by
    rw [lnB, List.length_append, List.length_take, p2_len]
    have := lnB_len all l k
    omega
theorem plc_bd (w : ByteArray) : ∀ (r : List Ln) (n : Int), 0 ≤ n → (∀ l ∈ r, LnOk l) → -1 ≤ plcF w n r ∧ plcF w n r ≤ n + 6 * r.length
  | [], n, hn, _ => by rw [plcF]; simp; omega
  | l :: r, n, hn, h => by
    rw [plcF]
    have hb := sz_bd (h l (by simp))
    split
    · simp only [List.length_cons]; omega
    · have := plc_bd w r (n + szF l) (by omega) (fun l hl => h l (by simp [hl]))
      simp only [List.length_cons]
      omega
theorem lns_len : ∀ (r : List (List UInt8)) (acc : List Ln) (n : Int), (lnsA acc n r).1.length ≤ acc.length + r.length
  | [], acc, n => by rw [lnsA, nms_fst]; simp
  | x :: r, acc, n => by
    rw [lnsA]
    split
    · simp only [List.length_cons]; omega
    · split
      · simp only [List.length_cons]; omega
      · split
        · simp only [List.length_cons]; omega
        · have := lns_len r (acc ++ [lnF x]) (n + szF (lnF x))
          rw [List.length_append] at this
          simp only [List.length_cons, List.length_nil] at this ⊢
          omega
theorem ext_pre (l : List UInt8) (k : Nat) : (bsL l).extract 0 k = bsL (l.take k) := by
  refine str_ext ?_
  rw [ByteArray.data_extract, Array.toList_extract, List.extract_eq_take_drop]
  simp
end Go.Proofs
