/- Part of a proof that a law returns true for every input. No condition. -/
import Derived.Test.YteloniioljdceaaGreatDoorFwG
import Derived.ChangeArms
import Derived.WideShapes
namespace Go.ca
open List Option Go.IntKind Nat Or
section
variable {H:Type} {enc:TypeId×Value->H} {P:Program} {w:World} {base:Nat} {sp:Nat->Bool} {held:Bool}
def ends:Nat->List (Nat×Nat)->Option Nat
 |o,[]=>some o
 |o,(jP,sz)::r=>if o=jP then ends (o+sz) r else none
end
theorem x1:(∀{α β:Type} (f:α->β) (l:List α),(l.map f).length=l.length)/\(∀{α:Type} (n:Nat) (a:α),(replicate n a).length=n)/\(∀{α:Type} (a:α) (l:List α),(a::l).length=l.length+1)/\(∀{α:Type},([]:List α).length=0)/\(∀{α:Type} (a b:List α),(a++b).length=a.length+b.length):=
 ⟨λ_ _=>length_map _,λ_ _=>length_replicate,λ_ _=>rfl,rfl,λ_ _=>length_append⟩
theorem Dk:(∀{α β:Type} (f:α->β) (l:List α) (i:Nat),(l.map f)[i]? =l[i]?.map f)/\(∀{α:Type} (a:α) (l:List α),(a::l)[0]? =some a)/\(∀{α:Type} (a:α) (l:List α) (i:Nat),(a::l)[i+1]? =l[i]?)/\
  (∀{α:Type} (a b:α) (l:List α),(a::l).set 0 b=b::l)/\(∀{α:Type} (a b:α) (l:List α) (n:Nat),(a::l).set (n+1) b=a::l.set n b)/\(∀{α:Type} (a:α) (l:List α) (n:Nat),(a::l).take (n+1)=a::l.take n)/\(∀{α:Type} (l:List α),l.take 0=[]):=
 ⟨λ_ _ _=>getElem?_map,λ_ _=>rfl,λ_ _ _=>rfl,λ_ _ _=>rfl,λ_ _ _ _=>rfl,λ_ _ _=>rfl,λ_=>rfl⟩
theorem Dl:(∀{α β:Type} (f:α->β) (a:α),(some a).map f=some (f a))/\(∀{α β:Type} (f:α->β),(none:Option α).map f=none)/\(∀{α:Type} (a:α),(some a).isSome=true):=⟨λ_ _=>rfl,λ_=>rfl,λ_=>rfl⟩
theorem x2:(∀{α β γ:Type} (g:β->γ) (f:α->β) (l:List α),(l.map f).map g=l.map (g∘f))/\(∀{α:Type} (l:List α),l++[]=l):=⟨λ_ _ _=>List.map_map,λl=>append_nil l⟩
theorem Dm:(∀{α β:Type} (f:α->β) (a:α) (l:List α),(a::l).map f=f a::l.map f)/\(∀{α β:Type} (f:α->β),([]:List α).map f=[])/\(∀{α β:Type} (f:α->β) (a b:List α),(a++b).map f=a.map f++b.map f)/\
  (∀{α β:Type} (f:α->β) (l:List α) (i:Nat) (a:α),(l.set i a).map f=(l.map f).set i (f a))/\(∀{α β:Type} (f:α->β) (l:List α) (i:Nat),(l.take i).map f=(l.map f).take i)/\(∀{α β:Type} (f:α->β) (l:List α) (i:Nat),(l.drop i).map f=(l.map f).drop i):=
 ⟨λ_ _ _=>rfl,λ_=>rfl,λ_ _ _=>map_append,λ_ _ _ _=>map_set,λ_ _ _=>map_take,λ_ _ _=>map_drop⟩
def o4:=PLift.up (ai @Co (ai @Cq (ai @Cr (ai @Cw (ai @Cx (ai @J1 (ai @Cn (ai @J3 (ai @CU (ai @CV (ai @Cy (ai @Cz (ai @CA (ai @CB (ai @CC (ai @CD (ai @CW (ai @CX (ai @CY (ai @CZ (ai @C0 (ai @C1 (ai @CE (ai @CF (ai @CG (ai @CH (ai @CI (ai @CJ (ai @CK (ai @CL (ai @CM (ai @CN (ai @CR (ai @xW (ai @xZ (ai @xY (ai @Dg (ai @Dh (ai @Di (ai @Dj (ai @eL.eq_def (ai @loc.eq_def (ai @hC.eq_def (ai @hG.eq_def (ai @ex.eq_def (ai @iT.eq_def (ai @fits.eq_def (ai @I.dt.eq_1 (ai @I.dt.eq_2 (ai @I.dt.eq_3 (ai @I.dt.eq_4 (ai @I.dt.eq_5 (ai @I.dt.eq_6 (ai @z6 (ai @z7 (ai @Bool.not_true (ai @Bool.not_false (ai @Bool.true_and (ai @Bool.and_true (ai @Bool.false_and (ai @Bool.true_or (ai @Bool.false_or (ai @Bool.and_self (ai @Bool.false_eq_true (ai @Bool.true_eq_false (ai @Bool.not_not (ai @true_and (ai @and_true (ai @and_self (ai @decide_true (ai @decide_false (ai @not_false_eq_true (ai @not_true_eq_false (ai @Dc (ai @Nat.zero_add (ai @Nat.add_zero (ai @Nat.mul_one (ai @Nat.lt_add_one (ai @zero_lt_succ (ai @fF.eq_def (ai @iR.eq_def (ai @flat.eq_1 (ai @flat.eq_2 (ai @flat.eq_3 (ai @flat.eq_4 (ai @flat.eq_5 (ai @flat.eq_6 (ai @flat.eq_7 (ai @mq.eq_1 (ai @mq.eq_2 (ai @gS.eq_def (ai @x1 (ai @Dk (ai @Dl (@x2)))))))))))))))))))))))))))))))))))))))))))))))))))))))))))))))))))))))))))))))))))))))))))))))
def gF:=PLift.up (ai @Cp (ai @Cq (ai @Cs (ai @Cw (ai @Cx (ai @J2 (ai @Cn (ai @J4 (ai @CU (ai @CV (ai @Cy (ai @Cz (ai @CA (ai @CB (ai @CC (ai @CD (ai @CW (ai @CX (ai @CY (ai @CZ (ai @C0 (ai @C1 (ai @CE (ai @CF (ai @CG (ai @CH (ai @CI (ai @CJ (ai @CK (ai @CL (ai @CM (ai @CN (ai @CR (ai @xW (ai @xZ (ai @xY (ai @Dg (ai @Dh (ai @Di (ai @Dj (ai @eL.eq_def (ai @loc.eq_def (ai @hC.eq_def (ai @hG.eq_def (ai @ex.eq_def (ai @iT.eq_def (ai @fits.eq_def (ai @I.dt.eq_1 (ai @I.dt.eq_2 (ai @I.dt.eq_3 (ai @I.dt.eq_4 (ai @I.dt.eq_5 (ai @I.dt.eq_6 (ai @z6 (ai @z7 (ai @Bool.not_true (ai @Bool.not_false (ai @Bool.true_and (ai @Bool.and_true (ai @Bool.false_and (ai @Bool.true_or (ai @Bool.false_or (ai @Bool.and_self (ai @Bool.false_eq_true (ai @Bool.true_eq_false (ai @Bool.not_not (ai @true_and (ai @and_true (ai @and_self (ai @decide_true (ai @decide_false (ai @not_false_eq_true (ai @not_true_eq_false (ai @Dc (ai @Nat.zero_add (ai @Nat.add_zero (ai @Nat.mul_one (ai @Nat.lt_add_one (ai @zero_lt_succ (ai @fF.eq_def (ai @iR.eq_def (ai @flat.eq_1 (ai @flat.eq_2 (ai @flat.eq_3 (ai @flat.eq_4 (ai @flat.eq_5 (ai @flat.eq_6 (ai @flat.eq_7 (ai @mq.eq_1 (ai @mq.eq_2 (ai @gS.eq_def (ai @x1 (ai @Dk (ai @Dl (@x2)))))))))))))))))))))))))))))))))))))))))))))))))))))))))))))))))))))))))))))))))))))))))))))))
def Kj:=PLift.up (ai @xW (ai @xZ (ai @xY (ai @eN.eq_1 (ai @Nat.zero_add (ai @Bool.not_true (ai @Bool.not_false (ai @Bool.true_and (ai @Bool.and_true (ai @Bool.false_and (ai @Bool.true_or (ai @Bool.false_or (ai @Bool.and_self (ai @Bool.false_eq_true (ai @Bool.true_eq_false (ai @Bool.not_not (ai @x1 (ai @x2 (@Dm)))))))))))))))))))
end Go.ca
