/-
  Kinds of arguments and results; what a function asks and gives.
-/
import Derived.Test.YtjpeimmjggkkjaaAx19
set_option linter.all false
namespace Go.Ax

inductive VK where
  | int (k : IntKind)
  | bool
  | str
  | elem (k : EK)
  | obj (k : OK)
  | opt (k : OK)
  | row (k : EK)
  | part (k : EK)
  | imm (k : EK)
  | fn (f : FuncId)

@[reducible] def VK.T : VK → Type
  | .int _ => Int
  | .bool => Bool
  | .str => ByteArray
  | .elem k => k.T
  | .obj k => k.T
  | .opt k => Option k.T
  | .row k => List k.T
  | .part k => List k.T
  | .imm k => List k.T
  | .fn _ => Unit

def VK.objs : (k : VK) → k.T → List AObj
  | .int _, _ => []
  | .bool, _ => []
  | .str, _ => []
  | .elem _, _ => []
  | .obj k, d => [.obj k d]
  | .opt k, x => match x with | some d => [.obj k d] | none => []
  | .row k, xs => [.row k xs]
  | .part k, xs => [.row k xs]
  | .imm _, _ => []
  | .fn _, _ => []

def VK.av : (k : VK) → k.T → Nat → AV
  | .int k, n, _ => .int k n
  | .bool, b, _ => .bool b
  | .str, s, _ => .str s
  | .elem k, x, _ => .agg (k.enc x)
  | .obj _, _, n => .ptr ⟨n, 0, 0, 0⟩
  | .opt _, x, n => match x with | some _ => .ptr ⟨n, 0, 0, 0⟩ | none => .nilp
  | .row k, xs, n => .sl n k.esz 0 xs.length
  | .part k, xs, n => .sl n k.esz 0 xs.length
  | .imm k, xs, _ => .imm k xs
  | .fn f, _, _ => .fn f []

def VK.isImm : VK → Bool
  | .imm _ => true
  | _ => false

@[reducible] def prodT : List VK → Type
  | [] => Unit
  | k :: ks => k.T × prodT ks

def objsAll : (ks : List VK) → prodT ks → List AObj
  | [], _ => []
  | k :: ks, x => k.objs x.1 ++ objsAll ks x.2
def avs : (ks : List VK) → prodT ks → Nat → List AV
  | [], _, _ => []
  | k :: ks, x, n => k.av x.1 n :: avs ks x.2 (n + (k.objs x.1).length)

/-- A value of its kind; what it owns is taken out of the heap. (At the end: the label it had.) -/
def takeV : (k : VK) → AV → AHeap → (k.T → AHeap → Option Nat → Prop) → Prop
  | .int k, x, H, K => match x with
    | .int k' n => br (kindEq k' k) (K n H none) False
    | _ => False
  | .bool, x, H, K => match x with
    | .bool b => K b H none
    | _ => False
  | .str, x, H, K => match x with
    | .str s => K s H none
    | _ => False
  | .elem k, x, H, K => match x with
    | .agg cs => match k.dec cs with
      | some d => K d H none
      | none => False
    | _ => False
  | .obj k, x, H, K => match x with
    | .ptr r => br (Nat.beq r.idx 0 && Nat.beq r.off 0) (takeO 9 k r.lab H fun d H => K d H (some r.lab)) False
    | _ => False
  | .opt k, x, H, K => match x with
    | .ptr r => br (Nat.beq r.idx 0 && Nat.beq r.off 0) (takeO 9 k r.lab H fun d H => K (some d) H (some r.lab)) False
    | .nilp => K none H none
    | _ => False
  | .row k, x, H, K => match x with
    | .sl lab esz base n => match H[lab]? with
      | some (some (.row k' xs)) => br (Nat.beq esz k.esz && Nat.beq base 0) (if h : k' = k then n = xs.length ∧ forceL (H.set lab none) fun H => K (castR h xs) H (some lab) else False) False
      | _ => False
    | .nils => K [] H none
    | _ => False
  | .part k, x, H, K => match x with
    | .sl lab esz base n => match H[lab]? with
      | some (some (.row k' xs)) => br (Nat.beq esz k.esz) (if h : k' = k then base + n ≤ xs.length ∧ forceL (H.set lab none) fun H => K (((castR h xs).drop base).take n) H none else False) False
      | _ => False
    | .nils => K [] H none
    | _ => False
  | .imm k, x, H, K => match x with
    | .imm k' xs => if h : k' = k then K (castR h xs) H none else False
    | .sl lab esz base n => match H[lab]? with
      | some (some (.row k' xs)) => br (Nat.beq esz k.esz) (if h : k' = k then base + n ≤ xs.length ∧ K (((castR h xs).drop base).take n) H none else False) False
      | _ => False
    | .nils => K [] H none
    | _ => False
  | .fn f, x, H, K => match x with
    | .fn g cs => match cs with
      | [] => br (Nat.beq g f) (K () H none) False
      | _ => False
    | _ => False

def takeVs : (ks : List VK) → List AV → AHeap → (prodT ks → AHeap → List (Option Nat) → Prop) → Prop
  | [], [], H, K => K () H []
  | k :: ks, a :: as, H, K => match k.isImm with
    | true => takeVs ks as H fun x H ls => takeV k a H fun d H l => K (d, x) H (l :: ls)
    | false => takeV k a H fun d H l => takeVs ks as H fun x H ls => K (d, x) H (l :: ls)
  | _, _, _, _ => False

/-- An argument's kind, and whether the caller keeps what it owns. -/
abbrev AKs := List (VK × Bool)
def AKs.ks (A : AKs) : List VK := A.map (·.1)
@[reducible] def keepT : AKs → Type
  | [] => Unit
  | (k, true) :: A => k.T × keepT A
  | (_, false) :: A => keepT A

def keepOK : Option Nat → Nat → List AObj → List AObj → Bool
  | _, _, [], [] => true
  | some m, n, [_], [_] => Nat.beq m n
  | _, _, _, _ => false
def keepTake : (A : AKs) → prodT (A.map (·.1)) → Nat → AHeap → (keepT A → AHeap → Prop) → Prop
  | [], _, _, H, K => K () H
  | (k, true) :: A, x, n, H, K => takeV k (k.av x.1 n) H fun d H l => br (keepOK l n (k.objs x.1) (k.objs d)) (keepTake A x.2 (n + (k.objs x.1).length) H fun y H => K (d, y) H) False
  | (k, false) :: A, x, n, H, K => keepTake A x.2 (n + (k.objs x.1).length) H K

def takeRet (R : List VK) (v : AV) (H : AHeap) (K : prodT R → AHeap → Prop) : Prop :=
  match R, K with
  | [k], K => takeV k v H fun d H _ => K (d, ()) H
  | ks, K => match v with
    | .tup vs => takeVs ks vs H fun x H _ => K x H
    | _ => False
def retAV (R : List VK) (x : prodT R) (n : Nat) : AV :=
  match R, x with
  | [k], x => k.av x.1 n
  | ks, x => .tup (avs ks x n)

def putOne (os : List AObj) (l : Option Nat) (H : AHeap) : AHeap :=
  match os, l with
  | [o], some l => H.set l (some o)
  | _, _ => H
def putKept : (A : AKs) → keepT A → List (Option Nat) → AHeap → AHeap
  | [], _, _, H => H
  | (k, true) :: A, y, l :: ls, H => putKept A y.2 ls (putOne (k.objs y.1) l H)
  | (_, false) :: A, y, _ :: ls, H => putKept A y ls H
  | _, _, [], H => H

/-- The labels that were live and are no more. -/
def gone : AHeap → AHeap → Nat → List Nat
  | some _ :: H, none :: H', n => n :: gone H H' (n + 1)
  | _ :: H, _ :: H', n => gone H H' (n + 1)
  | _, _, _ => []

def EK.clean : EK → Bool
  | .ract | .cact | .pact => false
  | _ => true
structure Sig where
  args : AKs
  ret : List VK
def VK.clean : VK → Bool
  | .elem k | .row k | .part k => k.clean
  | .imm _ => false
  | _ => true
/-- What was read alone is never given back. -/
def Sig.ok (S : Sig) : Bool := (S.ret.all fun k => !k.isImm) && ((S.args.all fun p => !p.1.isImm) || (S.ret.all VK.clean && S.args.all fun p => !p.2 || p.1.clean))
abbrev Sig.X (S : Sig) : Type := prodT (S.args.map (·.1))
abbrev Sig.Out (S : Sig) : Type := S.X → (keepT S.args → prodT S.ret → Prop) → Prop

def Sig.spec (S : Sig) (out : S.Out) : SpecT := fun args H K =>
  takeVs (S.args.map (·.1)) args H fun x H1 ls => out x fun y r =>
    forceL (putKept S.args y ls H1 ++ (objsAll S.ret r).map some) fun H2 => forceL (gone H H1 0) fun T => K (retAV S.ret r H.length) H2 T

/-- What is to be shown of a function's body, at one input. -/
def Sig.case (S : Sig) (E : LEnv) (fn : Func) (x : S.X) (k : keepT S.args → prodT S.ret → Prop) : Prop :=
  abody { E with n0 := (objsAll (S.args.map (·.1)) x).length } fn (avs (S.args.map (·.1)) x 0) ((objsAll (S.args.map (·.1)) x).map some) fun v H => keepTake S.args x 0 H fun y H => takeRet S.ret v H fun r _ => k y r
/-- What is to be shown of a function's body. -/
def Sig.VC (S : Sig) (out : S.Out) (E : LEnv) (fn : Func) : Prop := ∀ x k, out x k → S.case E fn x k

/-! ### Which kinds hold nothing that never changes -/
def AV.clean : AV → Bool
  | .imm _ _ => false
  | _ => true
def AObj.clean : AObj → Bool
  | .row k _ => k.clean
  | .obj _ _ => true
  | .raw _ => false
  | .map k _ => k.clean

theorem EK.clean_enc {k : EK} (h : k.clean = true) (x : k.T) : (k.enc x).all AV.clean = true := by
  cases k <;> first
    | rfl
    | (simp [EK.clean] at h; done)

def Fld.clean : Fld → Bool
  | .av x => x.clean
  | .own _ _ => true
  | .ownr k _ => k.clean

theorem OK.clean_unf (k : OK) (d : k.T) : (k.unf d).all Fld.clean = true := by
  cases k <;> first
    | rfl
    | (simp only [OK.unf]; rcases d with ⟨⟩; simp only []; rfl)
    | (obtain ⟨a, _, _, _, _, _, _, _, _, b, _, _⟩ := d; cases a <;> cases b <;> rfl)
end Go.Ax
