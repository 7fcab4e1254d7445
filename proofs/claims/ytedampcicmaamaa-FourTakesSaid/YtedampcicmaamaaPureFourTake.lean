/-
  Bytes that begin as a packet was laid are that packet; cut short they are none. No program in sight but its Lean functions. Conditions: those of each theorem.
-/
import Derived.Test.YtedampcicmaamaaPureFourL
set_option linter.unusedVariables false
set_option linter.unusedSectionVars false
set_option linter.unusedSimpArgs false
namespace Go.Proofs.Ytedampcicmaamaa.Pure
open Go.RowKit Go.Proofs.Ytedampcicmaamaa.PBase Go.Proofs.YtedampcicmaamaaW.PrintWords Go.Proofs.YtedampcicmaamaaW.PrintLast Go.Proofs.YtedampcicmaamaaW.PrintMore Go.Proofs.Ytedampcicmaamaa.MTally Go.Proofs.Ytedampcicmaamaa.MBe
/-- What stands ahead of a header's check, and behind it. -/
def hdA (tos id : Int) (df mf : Bool) (off ttl proto ol dl : Int) : List Int := be (64 + (20 + ol) / 4) 1 ++ be tos 1 ++ be (20 + ol + dl) 2 ++ be id 2 ++ be (bitsN df mf off) 2 ++ be ttl 1 ++ be proto 1
theorem hdC_split (tos id : Int) (df mf : Bool) (off ttl proto src dst ol dl c : Int) : hdC tos id df mf off ttl proto src dst ol dl c = hdA tos id df mf off ttl proto ol dl ++ (be c 2 ++ (be src 4 ++ be dst 4)) := by
  unfold hdC hdA; simp only [List.append_assoc]
theorem hdA_length (tos id : Int) (df mf : Bool) (off ttl proto ol dl : Int) : (hdA tos id df mf off ttl proto ol dl).length = 10 := by
  unfold hdA; simp [be_length]
theorem hdA_bytes (tos id : Int) (df mf : Bool) (off ttl proto ol dl : Int) : Bytes (hdA tos id df mf off ttl proto ol dl) := by
  have b := fun n w => (be_bytes n w : Bytes (be n w))
  unfold hdA
  exact Bytes.append (Bytes.append (Bytes.append (Bytes.append (Bytes.append (Bytes.append (b _ _) (b _ _)) (b _ _)) (b _ _)) (b _ _)) (b _ _)) (b _ _)
/-- The rest of what is summed up. -/
def hdZ (src dst : Int) (opts : ByteArray) : List Int := be src 4 ++ be dst 4 ++ bytesOf opts
theorem hdZ_bytes (src dst : Int) (opts : ByteArray) : Bytes (hdZ src dst opts) := Bytes.append (Bytes.append (be_bytes _ _) (be_bytes _ _)) (MBytes.range _)
theorem S_check (tos id : Int) (df mf : Bool) (off ttl proto src dst : Int) (opts : ByteArray) (dl c : Int) (h0 : 0 ≤ c) (h1 : c ≤ 65535) :
    S (hdC tos id df mf off ttl proto src dst opts.size dl c ++ bytesOf opts) = oadd (oadd (S (hdA tos id df mf off ttl proto opts.size dl)) (S (hdZ src dst opts))) c := by
  have e : hdC tos id df mf off ttl proto src dst opts.size dl c ++ bytesOf opts = hdA tos id df mf off ttl proto opts.size dl ++ (c / 256) :: (c % 256) :: hdZ src dst opts := by
    rw [hdC_split]
    unfold hdZ
    rw [show be c 2 = [c / 256, c % 256] by simp only [be, Int.pow_zero, Int.ediv_one]; rw [show (256 : Int) ^ 1 = 256 from rfl, show c / 256 % 256 = c / 256 by omega]]
    simp only [List.append_assoc, List.cons_append, List.nil_append]
  rw [e, S_word (by rw [hdA_length]) (hdA_bytes _ _ _ _ _ _ _ _ _) (hdZ_bytes _ _ _) (by omega) (by omega), show c / 256 * 256 + c % 256 = c by omega]
theorem S_ck (tos id : Int) (df mf : Bool) (off ttl proto src dst : Int) (opts data : ByteArray) :
    S (hdC tos id df mf off ttl proto src dst opts.size data.size (ck tos id df mf off ttl proto src dst opts data) ++ bytesOf opts) = 65535 := by
  have c := ck_range tos id df mf off ttl proto src dst opts data
  rw [S_check _ _ _ _ _ _ _ _ _ _ _ _ c.1 c.2]
  unfold ck
  rw [S_check _ _ _ _ _ _ _ _ _ _ _ _ (by omega) (by omega)]
  have r := oadd_R (S_R (hdA_bytes tos id df mf off ttl proto opts.size data.size)) (S_R (hdZ_bytes src dst opts))
  rw [oadd_zero r]
  exact oadd_compl r
/-- A packet's bytes, with a check. -/
def pkC (tos id : Int) (df mf : Bool) (off ttl proto src dst : Int) (opts data : ByteArray) (c : Int) : List Int := hdC tos id df mf off ttl proto src dst opts.size data.size c ++ bytesOf opts ++ bytesOf data
theorem pkC_length (tos id : Int) (df mf : Bool) (off ttl proto src dst : Int) (opts data : ByteArray) (c : Int) : (pkC tos id df mf off ttl proto src dst opts data c).length = 20 + opts.size + data.size := by
  unfold pkC; simp only [List.length_append, hdC_length, bytesOf_length]
theorem pkC_bytes (tos id : Int) (df mf : Bool) (off ttl proto src dst : Int) (opts data : ByteArray) (c : Int) : Bytes (pkC tos id df mf off ttl proto src dst opts data c) :=
  Bytes.append (Bytes.append (hdC_bytes _ _ _ _ _ _ _ _ _ _ _ _) (MBytes.range _)) (MBytes.range _)
theorem take_of {s : ByteArray} {tos id : Int} {df mf : Bool} {off ttl proto : Int} {b1 : Bool} {h1 src : Int} {b2 : Bool} {h2 dst : Int} {opts data : ByteArray} {c : Int} {B : List Int} (h : bytesOf s = pkC tos id df mf off ttl proto src dst opts data c ++ B)
    (hm : mayB tos id off ttl proto b1 h1 src b2 h2 dst opts = true) (hl : 20 + (opts.size : Int) + (data.size : Int) ≤ 65535) (u1 : 0 ≤ src) (u2 : 0 ≤ dst) (c0 : 0 ≤ c) (c1 : c ≤ 65535) (hS : S (hdC tos id df mf off ttl proto src dst opts.size data.size c ++ bytesOf opts) = 65535) :
    takeR s = (tos, id, df, mf, off, ttl, proto, b1, h1, src, b2, h2, dst, opts, data, 0) ∧ headsR s = (20 + (opts.size : Int), 20 + (opts.size : Int) + (data.size : Int), 0) ∧ s.size = 20 + opts.size + data.size + B.length ∧
    bt s 8 = ttl ∧ bt s 9 = proto ∧ bt s 10 = c / 256 ∧ bt s 11 = c % 256 := by
  obtain ⟨a1, a2, a3, a4, a5, ⟨rfl, rfl, a6⟩, ⟨rfl, rfl, a7⟩, a8, a9, a10⟩ := mayB_of hm
  have hsz : s.size = 20 + opts.size + data.size + B.length := by rw [← bytesOf_length, h, List.length_append, pkC_length]
  have rb := bitsN_range (df := df) (mf := mf) a5.1 a5.2
  have hL : bytesOf s = be (64 + (20 + (opts.size : Int)) / 4) 1 ++ (be tos 1 ++ (be (20 + (opts.size : Int) + (data.size : Int)) 2 ++ (be id 2 ++ (be (bitsN df mf off) 2 ++ (be ttl 1 ++ (be proto 1 ++ (be c 2 ++ (be src 4 ++ (be dst 4 ++ (bytesOf opts ++ (bytesOf data ++ B))))))))))) := by
    rw [h]; unfold pkC hdC; simp only [List.append_assoc]
  have A : ∀ (p q : List Int) (v : Int) (i w : Nat), bytesOf s = p ++ (be v w ++ q) → p.length = i → at_ (bytesOf s) i w = v % 256 ^ w := fun p q v i w e hp => by rw [e]; exact at_app v w hp
  have q0 : at_ (bytesOf s) 0 1 = 64 + (20 + (opts.size : Int)) / 4 := by rw [A [] _ _ 0 1 (by rw [hL]; rfl) rfl]; omega
  have q1 : at_ (bytesOf s) 1 1 = tos := by rw [A (be (64 + (20 + (opts.size : Int)) / 4) 1) _ tos 1 1 hL (be_length _ _)]; omega
  have hL2 := hL; rw [← List.append_assoc] at hL2
  have q2 : at_ (bytesOf s) 2 2 = 20 + (opts.size : Int) + (data.size : Int) := by rw [A _ _ _ 2 2 hL2 (by simp [be_length])]; omega
  rw [← List.append_assoc] at hL2
  have q4 : at_ (bytesOf s) 4 2 = id := by rw [A _ _ _ 4 2 hL2 (by simp [be_length])]; omega
  rw [← List.append_assoc] at hL2
  have q6 : at_ (bytesOf s) 6 2 = bitsN df mf off := by rw [A _ _ _ 6 2 hL2 (by simp [be_length])]; omega
  rw [← List.append_assoc] at hL2
  have q8 : at_ (bytesOf s) 8 1 = ttl := by rw [A _ _ _ 8 1 hL2 (by simp [be_length])]; omega
  rw [← List.append_assoc] at hL2
  have q9 : at_ (bytesOf s) 9 1 = proto := by rw [A _ _ _ 9 1 hL2 (by simp [be_length])]; omega
  rw [← List.append_assoc] at hL2
  have q10 : at_ (bytesOf s) 10 2 = c := by rw [A _ _ _ 10 2 hL2 (by simp [be_length])]; omega
  rw [← List.append_assoc] at hL2
  have q12 : at_ (bytesOf s) 12 4 = src := by rw [A _ _ _ 12 4 hL2 (by simp [be_length])]; omega
  rw [← List.append_assoc] at hL2
  have q16 : at_ (bytesOf s) 16 4 = dst := by rw [A _ _ _ 16 4 hL2 (by simp [be_length])]; omega
  have t0 := one_bt (s := s) (i := 0) (by omega)
  have t8 := one_bt (s := s) (i := 8) (by omega)
  have t9 := one_bt (s := s) (i := 9) (by omega)
  have t10 := two_bt (s := s) (i := 10) (by omega)
  have t6 := two_bt (s := s) (i := 6) (by omega)
  have r11 := bt_range s 11; have r7 := bt_range s 7
  rw [q0] at t0; rw [q8] at t8; rw [q9] at t9; rw [q10] at t10; rw [q6] at t6
  have e0 : bt s ((0 : Nat) : Int) = bt s 0 := rfl
  have e6 : bt s ((6 : Nat) : Int) = bt s 6 := rfl
  have e7 : bt s ((6 + 1 : Nat) : Int) = bt s 7 := rfl
  have e8 : bt s ((8 : Nat) : Int) = bt s 8 := rfl
  have e9 : bt s ((9 : Nat) : Int) = bt s 9 := rfl
  have e10 : bt s ((10 : Nat) : Int) = bt s 10 := rfl
  have e11 : bt s ((10 + 1 : Nat) : Int) = bt s 11 := rfl
  rw [e0] at t0; rw [e6, e7] at t6; rw [e8] at t8; rw [e9] at t9; rw [e10, e11] at t10
  have hb15 : bitsN df mf off < 32768 := by unfold bitsN; cases df <;> cases mf <;> simp <;> omega
  have hhd : ip4_heads.hd s = 20 + (opts.size : Int) := by unfold ip4_heads.hd; omega
  have htk : (bytesOf s).take (20 + (opts.size : Int)).toNat = hdC tos id df mf off ttl proto src dst opts.size data.size c ++ bytesOf opts := by
    rw [h]; unfold pkC
    rw [List.append_assoc (hdC tos id df mf off ttl proto src dst opts.size data.size c ++ bytesOf opts)]
    exact List.take_left' (by rw [List.length_append, hdC_length, bytesOf_length]; omega)
  have hh : headsR s = (20 + (opts.size : Int), 20 + (opts.size : Int) + (data.size : Int), 0) := by
    unfold headsR headsT
    rw [hhd, q2, htk, hS, if_neg (by omega), if_neg (by omega), if_neg (by omega), if_neg (by simp), if_neg (by omega), if_neg (by omega)]
  have x1 : s.extract 20 (20 + (opts.size : Int)).toNat = opts := by
    apply MBytes.inj
    rw [MBytes.extract, h]; unfold pkC
    rw [List.append_assoc, List.append_assoc, List.drop_left' (hdC_length ..)]
    exact List.take_left' (by rw [bytesOf_length]; omega)
  have x2 : s.extract (20 + (opts.size : Int)).toNat (20 + (opts.size : Int) + (data.size : Int)).toNat = data := by
    apply MBytes.inj
    rw [MBytes.extract, h]; unfold pkC
    rw [List.append_assoc (hdC tos id df mf off ttl proto src dst opts.size data.size c ++ bytesOf opts), List.drop_left' (by rw [List.length_append, hdC_length, bytesOf_length]; omega)]
    exact List.take_left' (by rw [bytesOf_length]; omega)
  refine ⟨?_, hh, hsz, by omega, by omega, by omega, by omega⟩
  unfold takeR
  rw [hh, if_neg (by simp), hhd, x1, a10, if_neg (by simp)]
  unfold pkt
  rw [hhd, q1, q2, q4, q6, q8, q9, q12, q16, x1, x2]
  have z1 : (bitsN df mf off / 16384 == 1) = df := by unfold bitsN; cases df <;> cases mf <;> simp <;> omega
  have z2 : (bitsN df mf off / 8192 % 2 == 1) = mf := by unfold bitsN; cases df <;> cases mf <;> simp <;> omega
  have z3 : bitsN df mf off % 8192 = off := by unfold bitsN; cases df <;> cases mf <;> simp <;> omega
  rw [z1, z2, z3]
/-- What is cut short is none. -/
theorem take_cut {s : ByteArray} (hn : at_ (bytesOf s) 2 2 = (s.size : Int)) {n : Nat} (hc : n < s.size) : ¬ (takeR (s.extract 0 n)).2.2.2.2.2.2.2.2.2.2.2.2.2.2.2 = 0 := by
  have hx : bytesOf (s.extract 0 n) = (bytesOf s).take n := by rw [MBytes.extract]; simp
  have hz : (s.extract 0 n).size = n := by rw [← bytesOf_length, hx, List.length_take, bytesOf_length]; omega
  have h0 : ¬ (headsR (s.extract 0 n)).2.2 = 0 := by
    intro h
    obtain ⟨g1, _, _, _, _, _, _, g8, _⟩ := heads_ok h
    have h4 : at_ (bytesOf (s.extract 0 n)) 2 2 = (s.size : Int) := by
      rw [hx, ← hn]
      unfold at_
      rw [List.drop_take, List.take_take, Nat.min_eq_left (by omega)]
    omega
  unfold takeR
  rw [if_pos h0]
  exact h0
end Go.Proofs.Ytedampcicmaamaa.Pure
