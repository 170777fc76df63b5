/- The two tables, line by line, as the program's own functions read them. -/
import Derived.Test.YthpeieieibbbgaaMUcdx1
import Derived.Test.YthpeieieibbbgaaMUcdx2
import Derived.Test.YthpeieieibbbgaaQUcdBasic
namespace Go.Proofs.Ythpeieieibbbgaa.QUcd
open Go.RowKit Go.Proofs.Ythpeieieibbbgaa.MUcd Go.Proofs.Ythpeieieibbbgaa.QUcd Go.Proofs.YthpeieieibbbgaaW.PrintWords Go.Proofs.YthpeieieibbbgaaW.PrintLast Go.Proofs.YthpeieieibbbgaaW.PrintMore
set_option linter.unusedVariables false
set_option linter.unusedSimpArgs false
/-- A line of the classes: where it stands, from, its end, to, its end, the class, where the next line stands. -/
structure CLn where
  p : Int
  a : Int
  ea : Int
  b : Int
  eb : Int
  c : Int
  n : Int
/-- A line of the maps: where it stands, the character, its end, what it comes to, where the next line stands. -/
structure MLn where
  p : Int
  a : Int
  ea : Int
  l : List Int
  n : Int
def cls : List CLn := [⟨0, 768, 3, 788, 7, 230, 12⟩, ⟨12, 789, 15, 789, 19, 232, 24⟩, ⟨24, 790, 27, 793, 31, 220, 36⟩, ⟨36, 794, 39, 794, 43, 232, 48⟩, ⟨48, 795, 51, 795, 55, 216, 60⟩, ⟨60, 796, 63, 800, 67, 220, 72⟩, ⟨72, 801, 75, 802, 79, 202, 84⟩, ⟨84, 803, 87, 806, 91, 220, 96⟩, ⟨96, 807, 99, 808, 103, 202, 108⟩, ⟨108, 809, 111, 819, 115, 220, 120⟩, ⟨120, 820, 123, 824, 127, 1, 130⟩, ⟨130, 825, 133, 828, 137, 220, 142⟩, ⟨142, 829, 145, 836, 149, 230, 154⟩, ⟨154, 837, 157, 837, 161, 240, 166⟩, ⟨166, 838, 169, 838, 173, 230, 178⟩, ⟨178, 839, 181, 841, 185, 220, 190⟩, ⟨190, 1456, 193, 1456, 197, 10, 201⟩, ⟨201, 1460, 204, 1460, 208, 14, 212⟩, ⟨212, 1468, 215, 1468, 219, 21, 223⟩, ⟨223, 1473, 226, 1473, 230, 24, 234⟩, ⟨234, 1474, 237, 1474, 241, 25, 245⟩, ⟨245, 1611, 248, 1611, 252, 27, 256⟩, ⟨256, 1617, 259, 1617, 263, 33, 267⟩, ⟨267, 1619, 270, 1620, 274, 230, 279⟩, ⟨279, 1621, 282, 1621, 286, 220, 291⟩, ⟨291, 1648, 294, 1648, 298, 35, 302⟩, ⟨302, 2364, 305, 2364, 309, 7, 312⟩, ⟨312, 2381, 315, 2381, 319, 9, 322⟩, ⟨322, 12441, 326, 12442, 331, 8, 334⟩, ⟨334, 119141, 339, 119141, 345, 216, 350⟩, ⟨350, 119150, 355, 119150, 361, 216, 366⟩]
def mps0 : List MLn := [⟨0, 192, 2, [65, 768], 10⟩, ⟨10, 193, 12, [65, 769], 20⟩, ⟨20, 194, 22, [65, 770], 30⟩, ⟨30, 195, 32, [65, 771], 40⟩, ⟨40, 196, 42, [65, 776], 50⟩, ⟨50, 197, 52, [65, 778], 60⟩, ⟨60, 199, 62, [67, 807], 70⟩, ⟨70, 200, 72, [69, 768], 80⟩]
def mps1 : List MLn := [⟨80, 201, 82, [69, 769], 90⟩, ⟨90, 202, 92, [69, 770], 100⟩, ⟨100, 203, 102, [69, 776], 110⟩, ⟨110, 204, 112, [73, 768], 120⟩, ⟨120, 205, 122, [73, 769], 130⟩, ⟨130, 206, 132, [73, 770], 140⟩, ⟨140, 207, 142, [73, 776], 150⟩, ⟨150, 209, 152, [78, 771], 160⟩]
def mps2 : List MLn := [⟨160, 210, 162, [79, 768], 170⟩, ⟨170, 211, 172, [79, 769], 180⟩, ⟨180, 212, 182, [79, 770], 190⟩, ⟨190, 213, 192, [79, 771], 200⟩, ⟨200, 214, 202, [79, 776], 210⟩, ⟨210, 217, 212, [85, 768], 220⟩, ⟨220, 218, 222, [85, 769], 230⟩, ⟨230, 219, 232, [85, 770], 240⟩]
def mps3 : List MLn := [⟨240, 220, 242, [85, 776], 250⟩, ⟨250, 221, 252, [89, 769], 260⟩, ⟨260, 224, 262, [97, 768], 270⟩, ⟨270, 225, 272, [97, 769], 280⟩, ⟨280, 226, 282, [97, 770], 290⟩, ⟨290, 227, 292, [97, 771], 300⟩, ⟨300, 228, 302, [97, 776], 310⟩, ⟨310, 229, 312, [97, 778], 320⟩]
def mps4 : List MLn := [⟨320, 231, 322, [99, 807], 330⟩, ⟨330, 232, 332, [101, 768], 340⟩, ⟨340, 233, 342, [101, 769], 350⟩, ⟨350, 234, 352, [101, 770], 360⟩, ⟨360, 235, 362, [101, 776], 370⟩, ⟨370, 236, 372, [105, 768], 380⟩, ⟨380, 237, 382, [105, 769], 390⟩, ⟨390, 238, 392, [105, 770], 400⟩]
def mps5 : List MLn := [⟨400, 239, 402, [105, 776], 410⟩, ⟨410, 241, 412, [110, 771], 420⟩, ⟨420, 242, 422, [111, 768], 430⟩, ⟨430, 243, 432, [111, 769], 440⟩, ⟨440, 244, 442, [111, 770], 450⟩, ⟨450, 245, 452, [111, 771], 460⟩, ⟨460, 246, 462, [111, 776], 470⟩, ⟨470, 249, 472, [117, 768], 480⟩]
def mps6 : List MLn := [⟨480, 250, 482, [117, 769], 490⟩, ⟨490, 251, 492, [117, 770], 500⟩, ⟨500, 252, 502, [117, 776], 510⟩, ⟨510, 253, 512, [121, 769], 520⟩, ⟨520, 255, 522, [121, 776], 530⟩, ⟨530, 256, 533, [65, 772], 541⟩, ⟨541, 257, 544, [97, 772], 552⟩, ⟨552, 258, 555, [65, 774], 563⟩]
def mps7 : List MLn := [⟨563, 259, 566, [97, 774], 574⟩, ⟨574, 260, 577, [65, 808], 585⟩, ⟨585, 261, 588, [97, 808], 596⟩, ⟨596, 274, 599, [69, 772], 607⟩, ⟨607, 275, 610, [101, 772], 618⟩, ⟨618, 276, 621, [69, 774], 629⟩, ⟨629, 277, 632, [101, 774], 640⟩, ⟨640, 480, 643, [65, 775, 772], 655⟩]
def mps8 : List MLn := [⟨655, 481, 658, [97, 775, 772], 670⟩, ⟨670, 836, 673, [776, 769], 682⟩, ⟨682, 884, 685, [697], 690⟩, ⟨690, 901, 693, [168, 769], 701⟩, ⟨701, 902, 704, [913, 769], 713⟩, ⟨713, 912, 716, [953, 776, 769], 729⟩, ⟨729, 940, 732, [945, 769], 741⟩, ⟨741, 1081, 744, [1080, 774], 753⟩]
def mps9 : List MLn := [⟨753, 1105, 756, [1077, 776], 765⟩, ⟨765, 1570, 768, [1575, 1619], 777⟩, ⟨777, 1571, 780, [1575, 1620], 789⟩, ⟨789, 1572, 792, [1608, 1620], 801⟩, ⟨801, 2345, 804, [2344, 2364], 813⟩, ⟨813, 2353, 816, [2352, 2364], 825⟩, ⟨825, 2392, 828, [2325, 2364], 837⟩, ⟨837, 7688, 841, [67, 807, 769], 853⟩]
def mps10 : List MLn := [⟨853, 7689, 857, [99, 807, 769], 869⟩, ⟨869, 7785, 873, [115, 803, 775], 885⟩, ⟨885, 7835, 889, [383, 775], 898⟩, ⟨898, 7844, 902, [65, 770, 769], 914⟩, ⟨914, 7845, 918, [97, 770, 769], 930⟩, ⟨930, 7896, 934, [79, 803, 770], 946⟩, ⟨946, 7897, 950, [111, 803, 770], 962⟩, ⟨962, 7936, 966, [945, 787], 975⟩]
def mps11 : List MLn := [⟨975, 7937, 979, [945, 788], 988⟩, ⟨988, 7938, 992, [945, 787, 768], 1005⟩, ⟨1005, 8049, 1009, [945, 769], 1018⟩, ⟨1018, 8066, 1022, [945, 787, 768, 837], 1039⟩, ⟨1039, 8175, 1043, [96], 1047⟩, ⟨1047, 8192, 1051, [8194], 1057⟩, ⟨1057, 8193, 1061, [8195], 1067⟩, ⟨1067, 8486, 1071, [937], 1076⟩]
def mps12 : List MLn := [⟨1076, 8490, 1080, [75], 1084⟩, ⟨1084, 8491, 1088, [65, 778], 1096⟩, ⟨1096, 8800, 1100, [61, 824], 1108⟩, ⟨1108, 10972, 1112, [10973, 824], 1122⟩, ⟨1122, 12364, 1126, [12363, 12441], 1137⟩, ⟨1137, 12400, 1141, [12399, 12441], 1152⟩, ⟨1152, 12401, 1156, [12399, 12442], 1167⟩, ⟨1167, 63744, 1171, [35912], 1177⟩]
def mps13 : List MLn := [⟨1177, 64285, 1181, [1497, 1460], 1190⟩, ⟨1190, 64298, 1194, [1513, 1473], 1203⟩, ⟨1203, 64299, 1207, [1513, 1474], 1216⟩, ⟨1216, 64300, 1220, [1513, 1468, 1473], 1233⟩, ⟨1233, 119134, 1238, [119127, 119141], 1251⟩, ⟨1251, 119135, 1256, [119128, 119141], 1269⟩, ⟨1269, 119136, 1274, [119128, 119141, 119150], 1293⟩, ⟨1293, 194560, 1298, [20029], 1304⟩]
def mps : List MLn := mps0 ++ (mps1 ++ (mps2 ++ (mps3 ++ (mps4 ++ (mps5 ++ (mps6 ++ (mps7 ++ (mps8 ++ (mps9 ++ (mps10 ++ (mps11 ++ (mps12 ++ (mps13
)))))))))))))
def cchain : Int → List CLn → Bool
  | p, [] => p == 366
  | p, x :: t => x.p == p && (decide (p < 366) && cchain x.n t)
def mchain : Int → List MLn → Bool
  | p, [] => p == 1304
  | p, x :: t => x.p == p && (decide (p < 1304) && mchain x.n t)
theorem cls_chain : cchain 0 cls = true := by decide +kernel
theorem mps_chain : mchain 0 mps = true := by decide +kernel
def cfact (x : CLn) : Bool := ucd_hex.f 60 lit366 x.p == some (x.a, x.ea) && ucd_hex.f 60 lit366 (wrap64 (x.ea + 1)) == some (x.b, x.eb) && ucd_decimal.f 60 lit366 (wrap64 (x.eb + 1)) == some x.c && ucd_line.f 60 lit366 x.p == some x.n
def mfact (x : MLn) : Bool := ucd_hex.f 60 lit1304 x.p == some (x.a, x.ea) && ucd_line.f 60 lit1304 x.p == some x.n && ucd_Map.l1 60 x.a x.a x.ea [] == some x.l
theorem cls_facts : cls.all cfact = true := by decide +kernel
theorem mfacts0 : mps0.all mfact = true := by decide +kernel
theorem mfacts1 : mps1.all mfact = true := by decide +kernel
theorem mfacts2 : mps2.all mfact = true := by decide +kernel
theorem mfacts3 : mps3.all mfact = true := by decide +kernel
theorem mfacts4 : mps4.all mfact = true := by decide +kernel
theorem mfacts5 : mps5.all mfact = true := by decide +kernel
theorem mfacts6 : mps6.all mfact = true := by decide +kernel
theorem mfacts7 : mps7.all mfact = true := by decide +kernel
theorem mfacts8 : mps8.all mfact = true := by decide +kernel
theorem mfacts9 : mps9.all mfact = true := by decide +kernel
theorem mfacts10 : mps10.all mfact = true := by decide +kernel
theorem mfacts11 : mps11.all mfact = true := by decide +kernel
theorem mfacts12 : mps12.all mfact = true := by decide +kernel
theorem mfacts13 : mps13.all mfact = true := by decide +kernel
theorem mps_facts : mps.all mfact = true := by
  simp only [mps, List.all_append, mfacts0, mfacts1, mfacts2, mfacts3, mfacts4, mfacts5, mfacts6, mfacts7, mfacts8, mfacts9, mfacts10, mfacts11, mfacts12, mfacts13, Bool.and_self]
def classL (c : Int) : List CLn → Int
  | [] => 0
  | x :: t => if x.a > c then 0 else if c ≤ x.b then x.c else classL c t
/-- A character's class. -/
def classN (c : Int) : Int := if c < 768 then 0 else classL c cls
def mapL (c : Int) : List MLn → List Int
  | [] => []
  | x :: t => if x.a < c then mapL c t else if x.a = c then x.l else []
/-- What a character comes to. -/
def mapN (c : Int) : List Int := if c < 192 then [] else mapL c mps

theorem Class_l0 (c : Int) : ∀ (l : List CLn) (p : Int), cchain p l = true → l.all cfact = true → Ev (fun k => ucd_Class.l0 k c p) (classL c l)
  | [], p, h, _ => by
    simp only [cchain, beq_iff_eq] at h
    refine Ev.succ ?_
    simp only [ucd_Class.l0, classL]
    exact Ev.ite_neg (by omega) (Ev.now _)
  | x :: t, p, h, hf => by
    simp only [cchain, Bool.and_eq_true, beq_iff_eq, decide_eq_true_eq] at h
    obtain ⟨rfl, hp, hc⟩ := h
    simp only [List.all_cons, Bool.and_eq_true, cfact, beq_iff_eq] at hf
    obtain ⟨⟨⟨⟨h1, h2⟩, h3⟩, h4⟩, ht⟩ := hf
    have e1 : Ev (fun k => ucd_hex.f k lit366 x.p) (x.a, x.ea) := Ev.of (ucd_hex.mono _ _) h1
    have e2 : Ev (fun k => ucd_hex.f k lit366 (wrap64 (x.ea + 1))) (x.b, x.eb) := Ev.of (ucd_hex.mono _ _) h2
    have e3 : Ev (fun k => ucd_decimal.f k lit366 (wrap64 (x.eb + 1))) x.c := Ev.of (ucd_decimal.mono _ _) h3
    have e4 : Ev (fun k => ucd_line.f k lit366 x.p) x.n := Ev.of (ucd_line.mono _ _) h4
    have ih := Class_l0 c t x.n hc ht
    refine Ev.succ ?_
    simp only [ucd_Class.l0, classL]
    refine Ev.ite_pos hp (Ev.bind e1 ?_)
    by_cases c1 : x.a > c
    · rw [if_pos c1]; exact Ev.ite_pos c1 (Ev.now _)
    · rw [if_neg c1]
      refine Ev.ite_neg c1 (Ev.bind e2 ?_)
      by_cases c2 : c ≤ x.b
      · rw [if_pos c2]; exact Ev.ite_pos c2 (Ev.bind e3 (Ev.now _))
      · rw [if_neg c2]; exact Ev.ite_neg c2 (Ev.bind e4 ih)
theorem Class_ev (c : Int) : Ev (fun k => ucd_Class.f k c) (classN c) := by
  unfold ucd_Class.f classN
  by_cases h : c < 768
  · rw [if_pos h]; exact Ev.ite_pos h (Ev.now _)
  · rw [if_neg h]; exact Ev.ite_neg h (Class_l0 c cls 0 cls_chain cls_facts)
theorem Map_l0 (c : Int) : ∀ (l : List MLn) (p : Int), mchain p l = true → l.all mfact = true → Ev (fun k => ucd_Map.l0 k c p) (mapL c l)
  | [], p, h, _ => by
    simp only [mchain, beq_iff_eq] at h
    refine Ev.succ ?_
    simp only [ucd_Map.l0, mapL]
    exact Ev.ite_neg (by omega) (Ev.now _)
  | x :: t, p, h, hf => by
    simp only [mchain, Bool.and_eq_true, beq_iff_eq, decide_eq_true_eq] at h
    obtain ⟨rfl, hp, hc⟩ := h
    simp only [List.all_cons, Bool.and_eq_true, mfact, beq_iff_eq] at hf
    obtain ⟨⟨⟨h1, h2⟩, h3⟩, ht⟩ := hf
    have e1 : Ev (fun k => ucd_hex.f k lit1304 x.p) (x.a, x.ea) := Ev.of (ucd_hex.mono _ _) h1
    have e2 : Ev (fun k => ucd_line.f k lit1304 x.p) x.n := Ev.of (ucd_line.mono _ _) h2
    have e3 : Ev (fun k => ucd_Map.l1 k x.a x.a x.ea []) x.l := Ev.of (fun k => (ucd_Map.mono_l k).2 _ _ _ _) h3
    have ih := Map_l0 c t x.n hc ht
    refine Ev.succ ?_
    simp only [ucd_Map.l0, mapL]
    refine Ev.ite_pos hp (Ev.bind e1 ?_)
    by_cases c1 : x.a < c
    · rw [if_pos c1]; exact Ev.ite_pos c1 (Ev.bind e2 ih)
    · rw [if_neg c1]
      refine Ev.ite_neg c1 ?_
      by_cases c2 : x.a = c
      · rw [if_pos c2]; subst c2; exact e3
      · rw [if_neg c2]
        refine Ev.succ ?_
        simp only [ucd_Map.l1]
        exact Ev.ite_neg c2 (Ev.now _)
theorem Map_ev (c : Int) : Ev (fun k => ucd_Map.f k c) (mapN c) := by
  unfold ucd_Map.f mapN
  by_cases h : c < 192
  · rw [if_pos h]; exact Ev.ite_pos h (Ev.now _)
  · rw [if_neg h]; exact Ev.ite_neg h (Map_l0 c mps 0 mps_chain mps_facts)
end Go.Proofs.Ythpeieieibbbgaa.QUcd
