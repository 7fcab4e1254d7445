/-
  What ip4.Lay comes to. No program in sight but its Lean function. Conditions: those of each theorem.
-/
import Derived.Test.YtedampcicmaamaaPureFour
set_option linter.unusedVariables false
set_option linter.unusedSectionVars false
set_option linter.unusedSimpArgs false
namespace Go.Proofs.Ytedampcicmaamaa.Pure
open Go.RowKit Go.Proofs.Ytedampcicmaamaa.PBase Go.Proofs.YtedampcicmaamaaW.PrintWords Go.Proofs.YtedampcicmaamaaW.PrintLast Go.Proofs.YtedampcicmaamaaW.PrintMore Go.Proofs.Ytedampcicmaamaa.MTally Go.Proofs.Ytedampcicmaamaa.MBe
def inB (x b : Int) : Bool := decide (0 ≤ x ∧ x ≤ b)
def fourB (b : Bool) (h l : Int) : Bool := decide (b = false ∧ h = 0 ∧ l < 4294967296)
theorem within_eq (x b : Int) : ip4_within.f x b = some (inB x b) := by
  unfold ip4_within.f inB
  split
  · congr 1; apply decide_eq_decide.2; omega
  · congr 1; symm; apply decide_eq_false; omega
theorem four_eq (b : Bool) (h l : Int) : ip4_four.f b h l = some (fourB b h l) := by
  unfold ip4_four.f addr_Valid.f fourB
  cases b with
  | true => simp
  | false =>
    by_cases e : h = 0
    · subst e; simp
    · simp [e]
/-- May a packet be? -/
def mayB (tos id off ttl proto : Int) (b1 : Bool) (h1 src : Int) (b2 : Bool) (h2 dst : Int) (opts : ByteArray) : Bool :=
  inB tos 255 && (inB ttl 255 && (inB proto 255 && (inB id 65535 && (inB off 8191 && (fourB b1 h1 src && (fourB b2 h2 dst && (decide ((opts.size : Int) ≤ 40) && (decide ((opts.size : Int) % 4 = 0) && ((optsR opts).2 == 0)))))))))
theorem may_eq (tos id : Int) (df mf : Bool) (off ttl proto : Int) (b1 : Bool) (h1 src : Int) (b2 : Bool) (h2 dst : Int) (opts data : ByteArray) (hs : opts.size ≤ 1099511627776) :
    ip4_may.f tos id df mf off ttl proto b1 h1 src b2 h2 dst opts data = some (mayB tos id off ttl proto b1 h1 src b2 h2 dst opts) := by
  unfold ip4_may.f mayB
  rw [opts_eq opts hs]
  simp only [Option.bind_some, within_eq, four_eq]
  have ite_d : ∀ (c : Prop) [Decidable c] (a b : Option Bool), (if c then a else b) = (if decide c = true then a else b) := fun c _ a b => by by_cases h : c <;> simp [h]
  rw [ite_d ((opts.size : Int) ≤ 40), ite_d ((opts.size : Int) % 4 = 0)]
  generalize decide ((opts.size : Int) ≤ 40) = x8
  generalize decide ((opts.size : Int) % 4 = 0) = x9
  generalize inB tos 255 = x1
  generalize inB ttl 255 = x2
  generalize inB proto 255 = x3
  generalize inB id 65535 = x4
  generalize inB off 8191 = x5
  generalize fourB b1 h1 src = x6
  generalize fourB b2 h2 dst = x7
  cases x1; rfl
  cases x2; rfl
  cases x3; rfl
  cases x4; rfl
  cases x5; rfl
  cases x6; rfl
  cases x7; rfl
  cases x8; rfl
  cases x9 <;> rfl
theorem mayB_of {tos id off ttl proto : Int} {b1 : Bool} {h1 src : Int} {b2 : Bool} {h2 dst : Int} {opts : ByteArray} (h : mayB tos id off ttl proto b1 h1 src b2 h2 dst opts = true) :
    (0 ≤ tos ∧ tos ≤ 255) ∧ (0 ≤ ttl ∧ ttl ≤ 255) ∧ (0 ≤ proto ∧ proto ≤ 255) ∧ (0 ≤ id ∧ id ≤ 65535) ∧ (0 ≤ off ∧ off ≤ 8191) ∧ (b1 = false ∧ h1 = 0 ∧ src < 4294967296) ∧ (b2 = false ∧ h2 = 0 ∧ dst < 4294967296) ∧ (opts.size : Int) ≤ 40 ∧ (opts.size : Int) % 4 = 0 ∧ (optsR opts).2 = 0 := by
  unfold mayB inB fourB at h
  simp only [Bool.and_eq_true, decide_eq_true_eq, beq_iff_eq] at h
  exact h
theorem mayB_mk {tos id off ttl proto : Int} {b1 : Bool} {h1 src : Int} {b2 : Bool} {h2 dst : Int} {opts : ByteArray} (h : (0 ≤ tos ∧ tos ≤ 255) ∧ (0 ≤ ttl ∧ ttl ≤ 255) ∧ (0 ≤ proto ∧ proto ≤ 255) ∧ (0 ≤ id ∧ id ≤ 65535) ∧ (0 ≤ off ∧ off ≤ 8191) ∧ (b1 = false ∧ h1 = 0 ∧ src < 4294967296) ∧ (b2 = false ∧ h2 = 0 ∧ dst < 4294967296) ∧ (opts.size : Int) ≤ 40 ∧ (opts.size : Int) % 4 = 0 ∧ (optsR opts).2 = 0) :
    mayB tos id off ttl proto b1 h1 src b2 h2 dst opts = true := by
  unfold mayB inB fourB
  simp only [Bool.and_eq_true, decide_eq_true_eq, beq_iff_eq]
  exact h
/-- The bits of a piece, as a sum. -/
def bitsN (df mf : Bool) (off : Int) : Int := (if df = true then 16384 else 0) + (if mf = true then 8192 else 0) + off
/-- A header with a check, ahead of the options. -/
def hdC (tos id : Int) (df mf : Bool) (off ttl proto src dst ol dl c : Int) : List Int :=
  be (64 + (20 + ol) / 4) 1 ++ be tos 1 ++ be (20 + ol + dl) 2 ++ be id 2 ++ be (bitsN df mf off) 2 ++ be ttl 1 ++ be proto 1 ++ be c 2 ++ be src 4 ++ be dst 4
theorem hdC_length (tos id : Int) (df mf : Bool) (off ttl proto src dst ol dl c : Int) : (hdC tos id df mf off ttl proto src dst ol dl c).length = 20 := by
  unfold hdC; simp [be_length]
theorem hdC_bytes (tos id : Int) (df mf : Bool) (off ttl proto src dst ol dl c : Int) : Bytes (hdC tos id df mf off ttl proto src dst ol dl c) := by
  have b := fun n w => (be_bytes n w : Bytes (be n w))
  unfold hdC
  exact Bytes.append (Bytes.append (Bytes.append (Bytes.append (Bytes.append (Bytes.append (Bytes.append (Bytes.append (Bytes.append (b _ _) (b _ _)) (b _ _)) (b _ _)) (b _ _)) (b _ _)) (b _ _)) (b _ _)) (b _ _)) (b _ _)
theorem cat_eq (tos id : Int) (df mf : Bool) (off ttl proto src dst ol dl : Int) : ip4_Lay.cat (ip4_Lay.ns tos id (bitsN df mf off) ttl proto src dst ol dl) = hdC tos id df mf off ttl proto src dst ol dl 0 := by
  unfold ip4_Lay.ns hdC
  simp [ip4_Lay.cat]
theorem mend_eq (tos id : Int) (df mf : Bool) (off ttl proto src dst ol dl c : Int) (O : List Int) (h0 : 0 ≤ c) (h1 : c ≤ 65535) : ip4_Lay.mend (hdC tos id df mf off ttl proto src dst ol dl 0 ++ O) c = hdC tos id df mf off ttl proto src dst ol dl c ++ O := by
  unfold ip4_Lay.mend hdC
  simp only [be, List.append_assoc, List.cons_append, List.nil_append, List.set_cons_succ, List.set_cons_zero, Int.pow_zero, Int.ediv_one]
  rw [show (256 : Int) ^ 1 = 256 from rfl, show c / 256 % 256 = c / 256 by omega]
/-- What ip4.Lay comes to. -/
def ck (tos id : Int) (df mf : Bool) (off ttl proto src dst : Int) (opts data : ByteArray) : Int := 65535 - S (hdC tos id df mf off ttl proto src dst opts.size data.size 0 ++ bytesOf opts)
def ofR (tos id : Int) (df mf : Bool) (off ttl proto src dst : Int) (opts data : ByteArray) : List Int :=
  hdC tos id df mf off ttl proto src dst opts.size data.size (ck tos id df mf off ttl proto src dst opts data) ++ bytesOf opts ++ bytesOf data
def layR (tos id : Int) (df mf : Bool) (off ttl proto : Int) (b1 : Bool) (h1 src : Int) (b2 : Bool) (h2 dst : Int) (opts data : ByteArray) : ByteArray × Int :=
  if mayB tos id off ttl proto b1 h1 src b2 h2 dst opts = true then (if 65535 < 20 + (opts.size : Int) + (data.size : Int) then (⟨#[]⟩, 53) else (strOfNums (ofR tos id df mf off ttl proto src dst opts data), 0)) else (⟨#[]⟩, 50)
theorem ck_range (tos id : Int) (df mf : Bool) (off ttl proto src dst : Int) (opts data : ByteArray) : 0 ≤ ck tos id df mf off ttl proto src dst opts data ∧ ck tos id df mf off ttl proto src dst opts data ≤ 65535 := by
  have h := S_R (Bytes.append (hdC_bytes tos id df mf off ttl proto src dst opts.size data.size 0) (MBytes.range opts))
  unfold R at h
  unfold ck; omega
theorem bitsN_range {df mf : Bool} {off : Int} (h0 : 0 ≤ off) (h1 : off ≤ 8191) : 0 ≤ bitsN df mf off ∧ bitsN df mf off ≤ 65535 := by
  unfold bitsN; cases df <;> cases mf <;> simp <;> omega
theorem lay_ev (tos id : Int) (df mf : Bool) (off ttl proto : Int) (b1 : Bool) (h1 : Int) {src : Int} (b2 : Bool) (h2 : Int) {dst : Int} (opts data : ByteArray) (hs : opts.size ≤ 1099511627776) (hd : data.size ≤ 140737488355328) (u1 : 0 ≤ src) (u2 : 0 ≤ dst) :
    Ev (fun k => ip4_Lay.f k tos id df mf off ttl proto b1 h1 src b2 h2 dst opts data) (layR tos id df mf off ttl proto b1 h1 src b2 h2 dst opts data) := by
  unfold ip4_Lay.f layR
  refine ev_bind (may_eq tos id df mf off ttl proto b1 h1 src b2 h2 dst opts data hs) ?_
  cases hm : mayB tos id off ttl proto b1 h1 src b2 h2 dst opts with
  | false => exact ev_pos rfl (ev_eq fun _ => rfl)
  | true =>
    obtain ⟨a1, a2, a3, a4, a5, a6, a7, a8, a9, a10⟩ := mayB_of hm
    rw [if_pos rfl]
    refine ev_neg (by decide) (ev_neg (fun q => q ⟨by omega, hd⟩) ?_)
    by_cases hl : 65535 < 20 + (opts.size : Int) + (data.size : Int)
    · rw [if_pos hl]; exact ev_pos hl (ev_eq fun _ => rfl)
    rw [if_neg hl]
    have e := bits_eq (df := df) (mf := mf) a5.1 a5.2
    have r := bitsN_range (df := df) (mf := mf) a5.1 a5.2
    rw [show ip4_Lay.bits df mf off = bitsN df mf off from e, cat_eq]
    have hb := Bytes.append (hdC_bytes tos id df mf off ttl proto src dst opts.size data.size 0) (MBytes.range opts)
    have c := ck_range tos id df mf off ttl proto src dst opts data
    refine ev_neg hl (ev_neg (fun q => q ⟨u1, by omega, u2, by omega, a1.1, a1.2, a4.1, a4.2, a2.1, a2.2, a3.1, a3.2, r.1, r.2⟩) (Ev.bind (PureT.check1_ev hb (by rw [List.length_append, hdC_length, bytesOf_length]; omega)) ?_))
    rw [show 65535 - S (hdC tos id df mf off ttl proto src dst opts.size data.size 0 ++ bytesOf opts) = ck tos id df mf off ttl proto src dst opts data from rfl]
    refine ev_neg (fun q => q c) (ev_eq fun _ => ?_)
    rw [mend_eq _ _ _ _ _ _ _ _ _ _ _ _ _ c.1 c.2]; rfl
theorem nums_append (l : List Int) (s : ByteArray) (h : Bytes l) : strOfNums l ++ s = strOfNums (l ++ bytesOf s) := by
  apply MBytes.inj
  rw [MBytes.append, MBytes.ofNums h, MBytes.ofNums (Bytes.append h (MBytes.range s))]
theorem awake_ev : Ev (fun k => crosswaylaw06_awake.f k) true := Ev.of (fun k => crosswaylaw06_awake.mono k) (k := 100) (by decide +kernel)
end Go.Proofs.Ytedampcicmaamaa.Pure
