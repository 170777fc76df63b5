import Derived.Test.YtenmljkddhonmaaHMrg10
import Derived.Laws.EntriesVeiled
namespace Go.Proofs.Ytenmljkddhonmaa.MMrg
open Go.RowKit Go.Proofs.Ytenmljkddhonmaa.QMrg Go.Proofs.YtenmljkddhonmaaW.PrintWords Go.Proofs.YtenmljkddhonmaaW.PrintLast Go.Proofs.YtenmljkddhonmaaW.PrintMore
set_option linter.unusedVariables false
set_option linter.unusedSimpArgs false
/-- A kind of sources. -/
structure SrcK (w0 : World) where
  T : Nat
  F : Nat
  bt : Nat
  hbt : bt ≠ 74 ∧ bt ≠ 76 ∧ bt ≠ 28 ∧ bt ≠ 68
  SP : World → Nat → List S28 → Nat → Prop
  SD : World → Nat → Nat → Prop
  cons : ∀ w p c x xs, SP w p (x :: xs) c → Below w0.heap.size w0 w → Calls Try.prog F #[.pointer (some ⟨p, 0, none⟩)] w fun e w' => e = .returned (tellV (some x)) ∧ SP w' p xs (c + 1) ∧ Kept w w' (fun k => k = p) ∧ Below w0.heap.size w0 w'
  nil : ∀ w p c, SP w p [] c → Below w0.heap.size w0 w → Calls Try.prog F #[.pointer (some ⟨p, 0, none⟩)] w fun e w' => e = .returned (tellV none) ∧ SD w' p (c + 1) ∧ Kept w w' (fun k => k = p) ∧ Below w0.heap.size w0 w'
  keepP : ∀ {w w' p xs c} {S : Nat → Prop}, SP w p xs c → Kept w w' S → ¬ S p → SP w' p xs c
  keepD : ∀ {w w' p c} {S : Nat → Prop}, SD w p c → Kept w w' S → ¬ S p → SD w' p c
  blkP : ∀ {w p xs c}, SP w p xs c → ∃ cs, w.heap[p]? = some (.cells cs bt (0, 0))
  blkD : ∀ {w p c}, SD w p c → ∃ cs, w.heap[p]? = some (.cells cs bt (0, 0))
  met : ∀ a w, (method 266 T (.pointer (some a)) "Next").run Try.prog w = .ok (F, .pointer (some a)) w
  ent : ∀ args w, (callFunc F args).run Try.prog w = .ok (.enter F args) w
def srcV (T : Nat) : Option Nat → Value
  | none => .nilIface
  | some p => .iface T (.pointer (some ⟨p, 0, none⟩))
theorem srcV_one (T : Nat) (o : Option Nat) : (srcV T o).oneCell' = true := by cases o <;> rfl
/-- Sources' row. -/
def kS (T : Nat) : Kd (Option Nat) := Kd.scalar (srcV T) (srcV_one T)
def askV (T : Nat) (ps : List (Option Nat)) (k : Nat) : Value := srcV T (ps.getD k none)
/-- The queue's elements. -/
def kH (ask : Nat → Value) : Kd L28 := Kd.iso (Kd.pair Kd.string (Kd.pair (Kd.int .i64) (Kd.pair (Kd.int .i64) (Kd.pair Kd.string (Kd.pair Kd.string (Kd.pair (Kd.int .i64) (Kd.scalar (fun k : Nat => Value.func (Fn.method "Next") #[ask k] #[]) (fun _ => rfl)))))))) (fun l : L28 => (l.e.f0, l.e.f1, l.e.f2, l.e.f3, l.e.f4, (l.at_ : Int), l.at_))
theorem kH_openM {ask : Nat → Value} {w : World} {base : Nat} {ok : Nat → Prop} {x : L28} {cs : List Value} (h : (kH ask).M w base ok x cs) : cs = hc ask x := by
  obtain ⟨_, _, rfl, rfl, ⟨_, _, rfl, rfl, ⟨_, _, rfl, rfl, ⟨_, _, rfl, rfl, ⟨_, _, rfl, rfl, ⟨_, _, rfl, rfl, rfl⟩⟩⟩⟩⟩⟩ := h
  exact rfl
theorem kH_mkM (ask : Nat → Value) (w : World) (base : Nat) (ok : Nat → Prop) (x : L28) : (kH ask).M w base ok x (hc ask x) := ⟨[.string x.e.f0], [.int .i64 x.e.f1, .int .i64 x.e.f2, .string x.e.f3, .string x.e.f4, .int .i64 (x.at_ : Int), .func (Fn.method "Next") #[ask x.at_] #[]], rfl, rfl, ⟨[.int .i64 x.e.f1], [.int .i64 x.e.f2, .string x.e.f3, .string x.e.f4, .int .i64 (x.at_ : Int), .func (Fn.method "Next") #[ask x.at_] #[]], rfl, rfl, ⟨[.int .i64 x.e.f2], [.string x.e.f3, .string x.e.f4, .int .i64 (x.at_ : Int), .func (Fn.method "Next") #[ask x.at_] #[]], rfl, rfl, ⟨[.string x.e.f3], [.string x.e.f4, .int .i64 (x.at_ : Int), .func (Fn.method "Next") #[ask x.at_] #[]], rfl, rfl, ⟨[.string x.e.f4], [.int .i64 (x.at_ : Int), .func (Fn.method "Next") #[ask x.at_] #[]], rfl, rfl, ⟨[.int .i64 (x.at_ : Int)], [.func (Fn.method "Next") #[ask x.at_] #[]], rfl, rfl, rfl⟩⟩⟩⟩⟩⟩
/-- A row stays where what is written is of other types. -/
theorem R_kept {α : Type} {d : Kd α} {e : Nat} {w w1 : World} {base : Nat} {ok : Nat → Prop} {v : Value} {xs : List α} {S : Nat → Prop} (h : d.R e w base ok v xs) (hk : Kept w w1 S) (hS : ∀ k, S k → k < w.heap.size → ∃ cs t, w.heap[k]? = some (.cells cs t (0, 0)) ∧ ∀ q, q ∈ e :: d.E → q ≠ t) : d.R e w1 base ok v xs := by
  refine Kd.R_mono (Kd.R_move (Kd.R_bound h) (fun k hk2 => ?_)) (fun k hk2 => hk2.1)
  obtain ⟨_, _, hlt, q, hq, cells, hc⟩ := hk2
  refine hk.2 k hlt (fun hs => ?_)
  obtain ⟨cs, t, h2, hne⟩ := hS k hs hlt
  rw [hc] at h2
  injection h2 with h2
  injection h2 with h3 h4
  exact hne q hq h4
/-- The queue's slice: a row, or none. -/
def MQ (B : Nat) (w : World) (ask : Nat → Value) (m : Nat) (q : List L28) : Prop := B ≤ m ∧ ((q = [] ∧ ∃ A c, w.heap[m]? = some (.cells #[.slice A 0 c] 74 (0, 0))) ∨ ∃ b c, B ≤ b ∧ q.length ≤ c ∧ QM w ask m b c q)
theorem reps_flat {ask : Nat → Value} {w : World} {base : Nat} {ok : Nat → Prop} : ∀ (q : List L28) (cs : List Value), Reps ((kH ask).M w base ok) 7 q cs → cs = flat ask q
  | [], cs, h => by
    have := h.1
    rw [List.length_nil, Nat.zero_mul] at this
    exact List.eq_nil_of_length_eq_zero this
  | l :: q, cs, h => by
    have h0 := kH_openM (h.2 0 l rfl)
    rw [Nat.zero_mul, List.drop_zero] at h0
    have ht : Reps ((kH ask).M w base ok) 7 q (cs.drop 7) := by
      refine ⟨by rw [List.length_drop, h.1, List.length_cons]; omega, fun j p hj => ?_⟩
      rw [List.drop_drop, show 7 + j * 7 = (j + 1) * 7 by omega]
      exact h.2 (j + 1) p (by simpa using hj)
    have ih := reps_flat q _ ht
    unfold flat at *
    rw [List.flatMap_cons, ← h0, ← ih, List.take_append_drop]
theorem QM_of_R {B : Nat} {w : World} {ask : Nat → Value} {m : Nat} {qv : Value} {q : List L28} (hm0 : B ≤ m) (hm : w.heap[m]? = some (.cells #[qv] 74 (0, 0))) (h : (kH ask).R 76 w B (fun _ => True) qv q) : MQ B w ask m q := by
  obtain ⟨_, inner, ho, hr⟩ := h
  have hf := reps_flat q inner hr
  refine ⟨hm0, ?_⟩
  rcases ho.2 with ⟨rfl, h0⟩ | ⟨g, cap, cur, rfl, hg, hh, hcap, _, hsz, htk⟩
  · exact .inl ⟨List.eq_nil_of_length_eq_zero h0, none, 0, hm⟩
  · refine .inr ⟨g, cap, hg, hcap, hm, cur.toList.drop (q.length * 7), ?_⟩
    rw [hh, ← hf, ← htk]
    congr 2
    rw [show (kH ask).sz = 7 from rfl, List.take_append_drop, Array.toArray_toList]
/-- The element of a source that was asked first. -/
def mkL (ps : List (Option Nat)) (rl : Nat → List (S28 × Nat)) (k : Nat) : Option L28 := match ps.getD k none, rl k with
  | some _, (e, r) :: t => some ⟨e, r, k, t⟩
  | _, _ => none
def QK (ps : List (Option Nat)) (rl : Nat → List (S28 × Nat)) (k : Nat) : List L28 := (List.range k).filterMap (mkL ps rl)
theorem QK_succ (ps : List (Option Nat)) (rl : Nat → List (S28 × Nat)) (k : Nat) : QK ps rl (k + 1) = QK ps rl k ++ (mkL ps rl k).toList := by
  unfold QK
  rw [List.range_succ, List.filterMap_append]
  congr 1
theorem QK_at {ps : List (Option Nat)} {rl : Nat → List (S28 × Nat)} {k : Nat} {l : L28} (h : l ∈ QK ps rl k) : l.at_ < k ∧ mkL ps rl l.at_ = some l := by
  unfold QK at h
  obtain ⟨j, hj, hl⟩ := List.mem_filterMap.1 h
  have : l.at_ = j := by
    unfold mkL at hl
    split at hl
    · injection hl with hl; rw [← hl]
    · cases hl
  rw [this]
  exact ⟨List.mem_range.1 hj, hl⟩
/-- What the sources are: those of the queue's elements have the rest, the others are done. -/
def SrcK.St {w0 : World} (K : SrcK w0) (ps : List (Option Nat)) (w : World) (q : List L28) (cnt : Nat → Nat) (n : Nat) : Prop :=
  ∀ (j p : Nat), j < n → ps[j]? = some (some p) → (∀ l ∈ q, l.at_ = j → K.SP w p (l.rest.map Prod.fst) (cnt j)) ∧ ((∀ l ∈ q, l.at_ ≠ j) → K.SD w p (cnt j))
def Ps (ps : List (Option Nat)) (k : Nat) : Prop := ∃ j : Nat, ps[j]? = some (some k)
theorem SrcK.St.kept {w0 : World} {K : SrcK w0} {ps : List (Option Nat)} {w w' : World} {q : List L28} {cnt : Nat → Nat} {n : Nat} {S : Nat → Prop} (h : K.St ps w q cnt n) (hk : Kept w w' S) (hS : ∀ (j p : Nat), ps[j]? = some (some p) → ¬ S p) : K.St ps w' q cnt n := by
  intro j p hj hp
  obtain ⟨h1, h2⟩ := h j p hj hp
  exact ⟨fun l hl ha => K.keepP (h1 l hl ha) hk (hS j p hp), fun hn => K.keepD (h2 hn) hk (hS j p hp)⟩
end Go.Proofs.Ytenmljkddhonmaa.MMrg
