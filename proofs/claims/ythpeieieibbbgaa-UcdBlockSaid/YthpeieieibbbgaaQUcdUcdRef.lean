/- The reference's reading of the two tables: lines, words, numbers, over lists of bytes; it tells what the program's own reading tells. -/
import Derived.Test.YthpeieieibbbgaaMUcdx1
import Derived.Test.YthpeieieibbbgaaMUcdx2
import Derived.Test.YthpeieieibbbgaaMUcdx3
import Derived.Test.YthpeieieibbbgaaQUcdUcdTab
namespace Go.Proofs.Ythpeieieibbbgaa.QUcd
open Go.RowKit Go.Proofs.Ythpeieieibbbgaa.MUcd Go.Proofs.Ythpeieieibbbgaa.QUcd Go.Proofs.YthpeieieibbbgaaW.PrintWords Go.Proofs.YthpeieieibbbgaaW.PrintLast Go.Proofs.YthpeieieibbbgaaW.PrintMore
set_option linter.unusedVariables false
set_option linter.unusedSimpArgs false
def toBA (l : List UInt8) : ByteArray := ⟨l.toArray⟩
theorem bt_nat (s : ByteArray) (i : Nat) (h : i < s.data.toList.length) : bt s (i : Int) = ((s.data.toList[i]).toNat : Int) := by
  have h2 : i < s.size := by simpa using h
  unfold bt
  rw [Int.toNat_natCast, dif_pos h2]
  rfl
theorem size_list (s : ByteArray) : s.data.toList.length = s.size := by simp
theorem u8_eq (b : UInt8) (n : Nat) (hn : n < 256) : ((b.toNat : Int) = (n : Int)) ↔ b = UInt8.ofNat n := by
  constructor
  · intro h
    have h2 : b.toNat = n := by omega
    apply UInt8.toNat_inj.1
    rw [h2]; simp; omega
  · rintro rfl
    simp; omega
def linesL (cur : List UInt8) : List UInt8 → List (List UInt8)
  | [] => []
  | b :: t => if b = 10 then cur :: linesL [] t else linesL (cur ++ [b]) t
theorem extract_toBA (s : ByteArray) (a b : Nat) : s.extract a b = toBA ((s.data.toList.take b).drop a) := by
  apply ByteArray.ext
  apply Array.toList_inj.1
  unfold toBA
  rw [ByteArray.data_extract, Array.toList_extract, List.extract_eq_take_drop, List.drop_take]
theorem lines_l0 (s : ByteArray) (hs : s.size < 1000000) (d : Nat) : ∀ (i at_ : Nat) (out : List ByteArray), s.size - i = d → at_ ≤ i → i ≤ s.size → out.length ≤ i →
    Ev (fun k => incipitref1_lines.l0 k s out (at_ : Int) (i : Int)) (out ++ (linesL ((s.data.toList.take i).drop at_) (s.data.toList.drop i)).map toBA) := by
  have hz := size_list s
  induction d with
  | zero =>
    intro i at_ out hd ha hi ho
    refine Ev.succ ?_
    simp only [incipitref1_lines.l0]
    rw [List.drop_eq_nil_of_le (show s.data.toList.length ≤ i by omega)]
    refine Ev.ite_neg (by omega) ?_
    simp only [linesL, List.map_nil, List.append_nil]
    exact Ev.now _
  | succ d ih =>
    intro i at_ out hd ha hi ho
    have hlt : i < s.data.toList.length := by omega
    refine Ev.succ ?_
    simp only [incipitref1_lines.l0, bt_nat s i hlt, Int.toNat_natCast]
    rw [wrap64_id (n := (i : Int) + 1) (by omega) (by omega), List.drop_eq_getElem_cons hlt]
    refine Ev.ite_pos (by omega) (Ev.ite_pos (by omega) ?_)
    simp only [linesL]
    have hu := u8_eq s.data.toList[i] 10 (by omega)
    by_cases c : s.data.toList[i] = 10
    · rw [if_pos c]
      refine Ev.ite_pos (hu.2 c) (Ev.ite_pos (by omega) (Ev.ite_pos (by omega) (Ev.ite_pos (by omega) (Ev.ite_pos (by omega) ?_))))
      have := ih (i + 1) (i + 1) (out ++ [s.extract at_ i]) (by omega) (Nat.le_refl _) (by omega) (by rw [List.length_append, List.length_singleton]; omega)
      rw [List.drop_eq_nil_of_le (show (s.data.toList.take (i + 1)).length ≤ i + 1 by rw [List.length_take]; omega), List.append_assoc, extract_toBA] at this
      rw [extract_toBA]
      exact this
    · rw [if_neg c]
      refine Ev.ite_neg (fun z => c (hu.1 z)) ?_
      have := ih (i + 1) at_ out (by omega) (by omega) (by omega) (by omega)
      rw [List.take_succ_eq_append_getElem hlt, List.drop_append_of_le_length (by rw [List.length_take]; omega)] at this
      exact this
theorem lines_ev (s : ByteArray) (hs : s.size < 1000000) : Ev (fun k => incipitref1_lines.f k s) ((linesL [] s.data.toList).map toBA) := by
  have := lines_l0 s hs s.size 0 0 [] rfl (Nat.le_refl _) (Nat.zero_le _) (Nat.le_refl _)
  show Ev (fun k => incipitref1_lines.l0 k s [] 0 0) _
  simpa using this
def wordsL (dn : List (List UInt8)) (cur : List UInt8) : List UInt8 → List (List UInt8)
  | [] => dn ++ [cur]
  | b :: t => if b = 32 then wordsL (dn ++ [cur]) [] t else wordsL dn (cur ++ [b]) t
theorem one_toBA (cur : List UInt8) (b : UInt8) : toBA cur ++ strOfNums [(b.toNat : Int)] = toBA (cur ++ [b]) := by
  apply ByteArray.ext
  apply Array.toList_inj.1
  simp [toBA, strOfNums]
theorem words_l0 (s : ByteArray) (hs : s.size < 1000000) (d : Nat) : ∀ (i : Nat) (dn : List (List UInt8)) (cur : List UInt8), s.size - i = d → i ≤ s.size → dn.length ≤ i → cur.length ≤ i →
    Ev (fun k => incipitref1_words.l0 k s ((dn ++ [cur]).map toBA) (i : Int)) ((wordsL dn cur (s.data.toList.drop i)).map toBA) := by
  have hz := size_list s
  induction d with
  | zero =>
    intro i dn cur hd hi h1 h2
    refine Ev.succ ?_
    simp only [incipitref1_words.l0]
    rw [List.drop_eq_nil_of_le (show s.data.toList.length ≤ i by omega)]
    refine Ev.ite_neg (by omega) ?_
    simp only [wordsL]
    exact Ev.now _
  | succ d ih =>
    intro i dn cur hd hi h1 h2
    have hlt : i < s.data.toList.length := by omega
    have hl : ((dn ++ [cur]).map toBA).length = dn.length + 1 := by simp
    have hg : ((dn ++ [cur]).map toBA).getD dn.length (⟨#[]⟩ : ByteArray) = toBA cur := by simp [List.getD_eq_getElem?_getD]
    have hset : ∀ x, ((dn ++ [cur]).map toBA).set dn.length x = dn.map toBA ++ [x] := by intro x; simp
    have hsz : (toBA cur).size = cur.length := by simp [toBA, ByteArray.size]
    refine Ev.succ ?_
    simp only [incipitref1_words.l0, bt_nat s i hlt, hl, Nat.add_sub_cancel, hg, hset, one_toBA]
    rw [wrap64_id (n := (i : Int) + 1) (by omega) (by omega), List.drop_eq_getElem_cons hlt]
    refine Ev.ite_pos (by omega) (Ev.ite_pos (by omega) ?_)
    simp only [wordsL]
    have hu := u8_eq s.data.toList[i] 32 (by omega)
    by_cases c : s.data.toList[i] = 32
    · rw [if_pos c]
      refine Ev.ite_pos (hu.2 c) (Ev.ite_pos (by omega) ?_)
      have := ih (i + 1) (dn ++ [cur]) [] (by omega) (by omega) (by rw [List.length_append, List.length_singleton]; omega) (Nat.zero_le _)
      rw [List.map_append] at this
      exact this
    · rw [if_neg c]
      refine Ev.ite_neg (fun z => c (hu.1 z)) (Ev.ite_pos (by rw [hsz]; omega) ?_)
      have := ih (i + 1) dn (cur ++ [s.data.toList[i]]) (by omega) (by omega) (by omega) (by rw [List.length_append, List.length_singleton]; omega)
      rw [List.map_append] at this
      exact this
theorem words_ev (l : List UInt8) (hs : l.length < 1000000) : Ev (fun k => incipitref1_words.f k (toBA l)) ((wordsL [] [] l).map toBA) := by
  have := words_l0 (toBA l) (by simpa [toBA, ByteArray.size] using hs) (toBA l).size 0 [] [] rfl (Nat.zero_le _) (Nat.le_refl _) (Nat.le_refl _)
  exact this
def numL (base n : Int) : List UInt8 → Int
  | [] => n
  | b :: t => numL base (if (b.toNat : Int) ≥ 65 then wrap64 (wrap64 (n * base) + ((((b.toNat : Int) - 65) % 256) + 10)) else wrap64 (wrap64 (n * base) + (((b.toNat : Int) - 48) % 256))) t
theorem number_l0 (s : ByteArray) (hs : s.size < 1000000) (base : Int) (d : Nat) : ∀ (i : Nat) (n : Int), s.size - i = d → Ev (fun k => incipitref1_number.l0 k s base n (i : Int)) (numL base n (s.data.toList.drop i)) := by
  have hz := size_list s
  induction d with
  | zero =>
    intro i n hd
    refine Ev.succ ?_
    simp only [incipitref1_number.l0]
    rw [List.drop_eq_nil_of_le (show s.data.toList.length ≤ i by omega)]
    exact Ev.ite_neg (by omega) (Ev.now _)
  | succ d ih =>
    intro i n hd
    have hlt : i < s.data.toList.length := by omega
    refine Ev.succ ?_
    simp only [incipitref1_number.l0, bt_nat s i hlt]
    rw [wrap64_id (n := (i : Int) + 1) (by omega) (by omega), List.drop_eq_getElem_cons hlt]
    refine Ev.ite_pos (by omega) (Ev.ite_pos (by omega) ?_)
    simp only [numL]
    by_cases c : ((s.data.toList[i]).toNat : Int) ≥ 65
    · rw [if_pos c]; exact Ev.ite_pos c (ih (i + 1) _ (by omega))
    · rw [if_neg c]; exact Ev.ite_neg c (ih (i + 1) _ (by omega))
theorem number_ev (l : List UInt8) (hs : l.length < 1000000) (base : Int) : Ev (fun k => incipitref1_number.f k (toBA l) base) (numL base 0 l) :=
  number_l0 (toBA l) (by simpa [toBA, ByteArray.size] using hs) base (toBA l).size 0 0 rfl
theorem rdOf_toBA (w : List (List UInt8)) (i : Nat) : rdOf ByteArray.empty (w.map toBA) (i : Int) = toBA (w.getD i []) := by
  unfold rdOf
  rw [Int.toNat_natCast, List.getD_eq_getElem?_getD, List.getD_eq_getElem?_getD, List.getElem?_map]
  cases w[i]? <;> rfl
/-- A line is short, and so are its words. -/
def lineOk (n : Nat) (l : List UInt8) : Bool := decide (l.length < 1000) && decide (n ≤ (wordsL [] [] l).length) && decide ((wordsL [] [] l).length < 1000) && (wordsL [] [] l).all (fun w => decide (w.length < 1000))
theorem word_short {w : List (List UInt8)} (h : w.all (fun w => decide (w.length < 1000)) = true) (i : Nat) : (w.getD i []).length < 1000000 := by
  rw [List.getD_eq_getElem?_getD]
  cases e : w[i]? with
  | none => simp
  | some x =>
    have := List.all_eq_true.1 h x (List.mem_of_getElem? e)
    simp only [decide_eq_true_eq] at this
    simp only [Option.getD_some]; omega
def cParse (l : List UInt8) : Int × Int × Int := (numL 16 0 ((wordsL [] [] l).getD 0 []), numL 16 0 ((wordsL [] [] l).getD 1 []), numL 10 0 ((wordsL [] [] l).getD 2 []))
def mParse (l : List UInt8) : Int × List Int := (numL 16 0 ((wordsL [] [] l).getD 0 []), ((wordsL [] [] l).drop 1).map (numL 16 0))
theorem cl_ok : (linesL [] lit366.data.toList).all (lineOk 3) = true := by decide +kernel
theorem cl_eq : (linesL [] lit366.data.toList).map cParse = cls.map (fun x => (x.a, x.b, x.c)) := by decide +kernel
theorem ml_ok : (linesL [] lit1304.data.toList).all (lineOk 1) = true := by decide +kernel
theorem ml_eq : (linesL [] lit1304.data.toList).map mParse = mps.map (fun x => (x.a, x.l)) := by decide +kernel
theorem ml_len : (linesL [] lit1304.data.toList).length < 1000 := by decide +kernel
theorem cl_len : (linesL [] lit366.data.toList).length < 1000 := by decide +kernel
def classR (c : Int) : List (Int × Int × Int) → Int
  | [] => 0
  | (a, b, v) :: t => if c ≥ a then (if c ≤ b then v else classR c t) else classR c t
def mapR (c : Int) : List (Int × List Int) → List Int
  | [] => []
  | (a, l) :: t => if a = c then l else mapR c t
def csort : List CLn → Bool
  | [] => true
  | x :: t => t.all (fun y => decide (x.a ≤ y.a)) && csort t
def msort : List MLn → Bool
  | [] => true
  | x :: t => t.all (fun y => decide (x.a ≤ y.a)) && msort t
theorem cls_sort : csort cls = true := by decide +kernel
theorem mps_sort : msort mps = true := by decide +kernel
theorem classR_none (c : Int) : ∀ l : List CLn, (∀ y ∈ l, c < y.a) → classR c (l.map (fun x => (x.a, x.b, x.c))) = 0
  | [], _ => rfl
  | x :: t, h => by
    simp only [List.map_cons, classR]
    rw [if_neg (by have := h x (List.mem_cons_self ..); omega)]
    exact classR_none c t (fun y hy => h y (List.mem_cons_of_mem _ hy))
theorem classR_eq (c : Int) : ∀ l : List CLn, csort l = true → classR c (l.map (fun x => (x.a, x.b, x.c))) = classL c l
  | [], _ => rfl
  | x :: t, h => by
    simp only [csort, Bool.and_eq_true, List.all_eq_true, decide_eq_true_eq] at h
    simp only [List.map_cons, classR, classL]
    by_cases c1 : x.a > c
    · rw [if_neg (by omega), if_pos c1]
      exact classR_none c t (fun y hy => by have := h.1 y hy; omega)
    · rw [if_pos (by omega), if_neg c1, classR_eq c t h.2]
theorem mapR_none (c : Int) : ∀ l : List MLn, (∀ y ∈ l, c < y.a) → mapR c (l.map (fun x => (x.a, x.l))) = []
  | [], _ => rfl
  | x :: t, h => by
    simp only [List.map_cons, mapR]
    rw [if_neg (by have := h x (List.mem_cons_self ..); omega)]
    exact mapR_none c t (fun y hy => h y (List.mem_cons_of_mem _ hy))
theorem mapR_eq (c : Int) : ∀ l : List MLn, msort l = true → mapR c (l.map (fun x => (x.a, x.l))) = mapL c l
  | [], _ => rfl
  | x :: t, h => by
    simp only [msort, Bool.and_eq_true, List.all_eq_true, decide_eq_true_eq] at h
    simp only [List.map_cons, mapR, mapL]
    by_cases c1 : x.a < c
    · rw [if_neg (by omega), if_pos c1, mapR_eq c t h.2]
    · rw [if_neg c1]
      by_cases c2 : x.a = c
      · rw [if_pos c2, if_pos c2]
      · rw [if_neg c2, if_neg c2]
        exact mapR_none c t (fun y hy => by have := h.1 y hy; omega)
theorem rClass_l0 (c : Int) (ls : List (List UInt8)) (hn : ls.length < 1000) (hok : ls.all (lineOk 3) = true) (d : Nat) : ∀ i : Nat, ls.length - i = d → Ev (fun k => incipitref1_Class.l0 k c (ls.map toBA) (i : Int)) (classR c ((ls.drop i).map cParse)) := by
  induction d with
  | zero =>
    intro i hd
    refine Ev.succ ?_
    simp only [incipitref1_Class.l0, List.length_map]
    rw [List.drop_eq_nil_of_le (by omega)]
    exact Ev.ite_neg (by omega) (Ev.now _)
  | succ d ih =>
    intro i hd
    have hlt : i < ls.length := by omega
    have ho := List.all_eq_true.1 hok ls[i] (List.getElem_mem _)
    simp only [lineOk, Bool.and_eq_true, decide_eq_true_eq] at ho
    obtain ⟨⟨⟨h1, h2⟩, h3⟩, h4⟩ := ho
    have en : wrap64 ((i : Int) + 1) = ((i + 1 : Nat) : Int) := by rw [wrap64_id (by omega) (by omega)]; omega
    have r0 := rdOf_toBA (wordsL [] [] ls[i]) 0
    have r1 := rdOf_toBA (wordsL [] [] ls[i]) 1
    have r2 := rdOf_toBA (wordsL [] [] ls[i]) 2
    simp only [Int.natCast_zero, Int.natCast_one, Int.cast_ofNat_Int] at r0 r1 r2
    refine Ev.succ ?_
    simp only [incipitref1_Class.l0, List.length_map, rdOf_toBA, en]
    rw [List.drop_eq_getElem_cons hlt, List.map_cons, show ls.getD i [] = ls[i] by rw [List.getD_eq_getElem?_getD, List.getElem?_eq_getElem hlt]; rfl]
    refine Ev.ite_pos (by omega) (Ev.ite_pos (by omega) (Ev.bind (words_ev ls[i] (by omega)) ?_))
    simp only [List.length_map, r0, r1, r2]
    refine Ev.ite_pos (by omega) (Ev.bind (number_ev _ (word_short h4 0) 16) ?_)
    rw [show cParse ls[i] = (numL 16 0 ((wordsL [] [] ls[i]).getD 0 []), numL 16 0 ((wordsL [] [] ls[i]).getD 1 []), numL 10 0 ((wordsL [] [] ls[i]).getD 2 [])) from rfl]
    simp only [classR]
    by_cases c1 : c ≥ numL 16 0 ((wordsL [] [] ls[i]).getD 0 [])
    · rw [if_pos c1]
      refine Ev.ite_pos c1 (Ev.ite_pos (by omega) (Ev.bind (number_ev _ (word_short h4 1) 16) ?_))
      by_cases c2 : c ≤ numL 16 0 ((wordsL [] [] ls[i]).getD 1 [])
      · rw [if_pos c2]
        exact Ev.ite_pos c2 (Ev.ite_pos (by omega) (Ev.bind (number_ev _ (word_short h4 2) 10) (Ev.now _)))
      · rw [if_neg c2]; exact Ev.ite_neg c2 (ih (i + 1) (by omega))
    · rw [if_neg c1]; exact Ev.ite_neg c1 (ih (i + 1) (by omega))
theorem rClass_ev (c : Int) : Ev (fun k => incipitref1_Class.f k c) (classN c) := by
  unfold incipitref1_Class.f classN
  by_cases h : c < 768
  · rw [if_pos h]; exact Ev.ite_pos h (Ev.now _)
  · rw [if_neg h, ← classR_eq c cls cls_sort, ← cl_eq]
    have := rClass_l0 c _ cl_len cl_ok _ 0 rfl
    rw [List.drop_zero] at this
    exact Ev.ite_neg h (Ev.bind (lines_ev lit366 (by decide +kernel)) this)
theorem rMap_l1 (ws : List (List UInt8)) (hn : ws.length < 1000) (hok : ws.all (fun w => decide (w.length < 1000)) = true) (d : Nat) : ∀ (i : Nat) (out : List Int), ws.length - i = d → out.length ≤ i → Ev (fun k => incipitref1_Map.l1 k (ws.map toBA) out (i : Int)) (out ++ (ws.drop i).map (numL 16 0)) := by
  induction d with
  | zero =>
    intro i out hd ho
    refine Ev.succ ?_
    simp only [incipitref1_Map.l1, List.length_map]
    rw [List.drop_eq_nil_of_le (by omega), List.map_nil, List.append_nil]
    exact Ev.ite_neg (by omega) (Ev.now _)
  | succ d ih =>
    intro i out hd ho
    have hlt : i < ws.length := by omega
    have en : wrap64 ((i : Int) + 1) = ((i + 1 : Nat) : Int) := by rw [wrap64_id (by omega) (by omega)]; omega
    refine Ev.succ ?_
    simp only [incipitref1_Map.l1, List.length_map, rdOf_toBA, en]
    rw [List.drop_eq_getElem_cons hlt, List.map_cons]
    refine Ev.ite_pos (by omega) (Ev.ite_pos (by omega) (Ev.bind (number_ev _ (word_short hok i) 16) (Ev.ite_pos (by omega) ?_)))
    have := ih (i + 1) (out ++ [numL 16 0 (ws.getD i [])]) (by omega) (by rw [List.length_append, List.length_singleton]; omega)
    rw [List.append_assoc, show ws.getD i [] = ws[i] by rw [List.getD_eq_getElem?_getD, List.getElem?_eq_getElem hlt]; rfl] at this
    rw [show ws.getD i [] = ws[i] by rw [List.getD_eq_getElem?_getD, List.getElem?_eq_getElem hlt]; rfl]
    exact this
theorem rMap_l0 (c : Int) (ls : List (List UInt8)) (hn : ls.length < 1000) (hok : ls.all (lineOk 1) = true) (d : Nat) : ∀ i : Nat, ls.length - i = d → Ev (fun k => incipitref1_Map.l0 k c (ls.map toBA) (i : Int)) (mapR c ((ls.drop i).map mParse)) := by
  induction d with
  | zero =>
    intro i hd
    refine Ev.succ ?_
    simp only [incipitref1_Map.l0, List.length_map]
    rw [List.drop_eq_nil_of_le (by omega)]
    exact Ev.ite_neg (by omega) (Ev.now _)
  | succ d ih =>
    intro i hd
    have hlt : i < ls.length := by omega
    have ho := List.all_eq_true.1 hok ls[i] (List.getElem_mem _)
    simp only [lineOk, Bool.and_eq_true, decide_eq_true_eq] at ho
    obtain ⟨⟨⟨h1, h2⟩, h3⟩, h4⟩ := ho
    have en : wrap64 ((i : Int) + 1) = ((i + 1 : Nat) : Int) := by rw [wrap64_id (by omega) (by omega)]; omega
    have r0 := rdOf_toBA (wordsL [] [] ls[i]) 0
    simp only [Int.natCast_zero] at r0
    refine Ev.succ ?_
    simp only [incipitref1_Map.l0, List.length_map, rdOf_toBA, en]
    rw [List.drop_eq_getElem_cons hlt, List.map_cons, show ls.getD i [] = ls[i] by rw [List.getD_eq_getElem?_getD, List.getElem?_eq_getElem hlt]; rfl]
    refine Ev.ite_pos (by omega) (Ev.ite_pos (by omega) (Ev.bind (words_ev ls[i] (by omega)) ?_))
    simp only [List.length_map, r0]
    refine Ev.ite_pos (by omega) (Ev.bind (number_ev _ (word_short h4 0) 16) ?_)
    rw [show mParse ls[i] = (numL 16 0 ((wordsL [] [] ls[i]).getD 0 []), ((wordsL [] [] ls[i]).drop 1).map (numL 16 0)) from rfl]
    simp only [mapR]
    by_cases c1 : numL 16 0 ((wordsL [] [] ls[i]).getD 0 []) = c
    · rw [if_pos c1]
      refine Ev.ite_pos c1 ?_
      have := rMap_l1 (wordsL [] [] ls[i]) h3 h4 _ 1 [] rfl (Nat.zero_le _)
      exact this
    · rw [if_neg c1]; exact Ev.ite_neg c1 (ih (i + 1) (by omega))
theorem rMap_ev (c : Int) : Ev (fun k => incipitref1_Map.f k c) (mapN c) := by
  unfold incipitref1_Map.f mapN
  by_cases h : c < 192
  · rw [if_pos h]; exact Ev.ite_pos h (Ev.now _)
  · rw [if_neg h, ← mapR_eq c mps mps_sort, ← ml_eq]
    have := rMap_l0 c _ ml_len ml_ok _ 0 rfl
    rw [List.drop_zero] at this
    exact Ev.ite_neg h (Ev.bind (lines_ev lit1304 (by decide +kernel)) this)
theorem ints_l0 (l : List Int) (hl : l.length ≤ 1000) (d : Nat) : ∀ i : Nat, l.length - i = d → Ev (fun k => incipitlaw1_Ints.l0 k l l (i : Int)) true := by
  induction d with
  | zero =>
    intro i hd
    refine Ev.succ ?_
    simp only [incipitlaw1_Ints.l0]
    exact Ev.ite_neg (by omega) (Ev.now _)
  | succ d ih =>
    intro i hd
    have en : wrap64 ((i : Int) + 1) = ((i + 1 : Nat) : Int) := by rw [wrap64_id (by omega) (by omega)]; omega
    refine Ev.succ ?_
    simp only [incipitlaw1_Ints.l0, en]
    exact Ev.ite_pos (by omega) (Ev.ite_pos (by omega) (Ev.ite_pos (by omega) (Ev.ite_pos trivial (ih (i + 1) (by omega)))))
theorem ints_ev (l : List Int) (hl : l.length ≤ 1000) : Ev (fun k => incipitlaw1_Ints.f k l l) true := by
  unfold incipitlaw1_Ints.f
  exact Ev.ite_pos rfl (ints_l0 l hl l.length 0 rfl)
theorem begun2_ev : Ev (fun k => incipitlaw2_begun.f k) true := by
  unfold incipitlaw2_begun.f
  refine Ev.bind (Class_ev 769) (Ev.ite_pos (by decide +kernel) (Ev.bind (Class_ev 97) (Ev.ite_pos (by decide +kernel) (Ev.bind (Class_ev 803) (Ev.ite_pos (by decide +kernel) (Ev.bind (Map_ev 233) ?_))))))
  rw [show mapN 233 = [101, 769] by decide +kernel]
  refine Ev.bind (Ev.of (incipitlaw1_Ints.mono _ _) (k := 10) (show incipitlaw1_Ints.f 10 [101, 769] [101, 769] = some true by decide +kernel)) (Ev.ite_pos rfl (Ev.bind (Map_ev 101) ?_))
  rw [show mapN 101 = [] by decide +kernel]
  exact Ev.now _
theorem mps2_short : mps.all (fun x => decide (x.l.length ≤ 1000)) = true := by decide +kernel
theorem mapL2_short (c : Int) : ∀ l : List MLn, l.all (fun x => decide (x.l.length ≤ 1000)) = true → (mapL c l).length ≤ 1000
  | [], _ => by simp [mapL]
  | x :: t, h => by
    simp only [List.all_cons, Bool.and_eq_true, decide_eq_true_eq] at h
    simp only [mapL]
    split
    · exact mapL2_short c t h.2
    · split
      · exact h.1
      · simp
theorem mapN2_short (c : Int) : (mapN c).length ≤ 1000 := by
  unfold mapN
  split
  · simp
  · exact mapL2_short c mps mps2_short
end Go.Proofs.Ythpeieieibbbgaa.QUcd
