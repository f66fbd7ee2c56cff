/- Part of a proof that a law returns true for every input. No condition. -/
import Derived.Test.YtlkabaochkgkdaaGreatDoorFwC
import Derived.Test.YtlkabaochkgkdaaGreatDoorFwA
import Derived.Laws.IdiomStrings
import Derived.Laws.Strings
import Derived.LaidEql
import Derived.WideLaws
import Derived.Laws.StructEq
namespace Go.c_
section
variable {C:cl} {w0 w:World} {F0 X F:Nat->Prop} {S:Nat->Nat->Prop} {s s1:ar} {aC:Nat->Value} {av:I}
theorem nI {k:IntKind} {n:Int} {v:Value} {aW:Nat->Prop} (h:aO w F s aC (.int k n) v aW):v= .int k n:=by
 have bt:=(aO.cT rfl).1 h;rw[ax,hH bt.1]at bt;simpa using bt.2
theorem sC {b:Bool} {v:Value} {aW:Nat->Prop} (h:aO w F s aC (.bool b) v aW):v= .bool b:=by
 have bt:=(aO.cT rfl).1 h;rw[ax,hH bt.1]at bt;simpa using bt.2
theorem mZ {b:List UInt8} {v:Value} {aW:Nat->Prop} (h:aO w F s aC (.str b) v aW):v= .string ⟨⟨b⟩⟩:=by
 have bt:=(aO.cT rfl).1 h;rw[ax,hH bt.1]at bt;simpa using bt.2
theorem Lp {v:Value} {aW:Nat->Prop} (h:aO w F s aC .dS v aW):v= .pointer none:=by
 have bt:=(aO.cT rfl).1 h;rw[ax,hH bt.1]at bt;simpa using bt.2
theorem rA {v:Value} {aW:Nat->Prop} (h:aO w F s aC .bz v aW):v= .slice none 0 0:=by
 have bt:=(aO.cT rfl).1 h;rw[ax,hH bt.1]at bt;simpa using bt.2
theorem Lq {v:Value} {aW:Nat->Prop} (h:aO w F s aC .fs v aW):∃b,v= .bool b:=by
 have bt:=(aO.cT rfl).1 h;rw[ax,hH bt.1]at bt;simpa using bt.2
theorem of_int (k:IntKind) (n:Int):aO w F s aC (.int k n) (.int k n) (λ_=>False):=(aO.cT rfl).2 ⟨rfl,by rw[ax];rfl⟩
theorem of_bool (b:Bool):aO w F s aC (.bool b) (.bool b) (λ_=>False):=(aO.cT rfl).2 ⟨rfl,by rw[ax];rfl⟩
theorem pM (b:List UInt8):aO w F s aC (.str b) (.string ⟨⟨b⟩⟩) (λ_=>False):=(aO.cT rfl).2 ⟨rfl,by rw[ax];rfl⟩
theorem Ha (b:Bool):aO w F s aC .fs (.bool b) (λ_=>False):=(aO.cT rfl).2 ⟨rfl,by rw[ax];exact⟨b,rfl⟩⟩
def jQ (op:BinOp) (k:IntKind) (a:Int) (di:IntKind) (b:Int):Option I:=
 match op with
 | .shl=>if b<0 then none else some (.int k (k.wrap (a*2^(min b.toNat k.bits))))
 | .shr=>if b<0 then none else some (.int k (a.fdiv (2^(min b.toNat k.bits))))
 | .add=>if k=di then some (.int k (k.wrap (a+b)))else none
 | .sub=>if k=di then some (.int k (k.wrap (a-b)))else none
 | .mul=>if k=di then some (.int k (k.wrap (a*b)))else none
 | .quo=>if k=di/\b≠0 then some (.int k (k.wrap (a.tdiv b)))else none
 | .rem=>if k=di/\b≠0 then some (.int k (a.tmod b))else none
 | .eql=>if k=di then some (.bool (a==b))else none
 | .neq=>if k=di then some (.bool (a !=b))else none
 | .lss=>if k=di then some (.bool (decide (a<b)))else none
 | .leq=>if k=di then some (.bool (decide (a<=b)))else none
 | .gtr=>if k=di then some (.bool (decide (b<a)))else none
 | .geq=>if k=di then some (.bool (decide (b<=a)))else none
 | .and=>if k=di then some (.int k (bitsOf .and k a b))else none
 | .or=>if k=di then some (.int k (bitsOf .or k a b))else none
 | .xor=>if k=di then some (.int k (bitsOf .xor k a b))else none
 | .andNot=>if k=di then some (.int k (bitsOf .andNot k a b))else none
def oh (op:BinOp) (a b:List UInt8):Option I:=
 match op with
 | .add=>if a.length+b.length<=9223372036854775807 then some (.str (a++b))else none
 | .eql=>some (.bool (a==b))
 | .neq=>some (.bool !(a==b))
 | .lss=>some (.bool (Op.bytesLess a b))
 | .leq=>some (.bool (Op.bytesLess a b||a==b))
 | .gtr=>some (.bool !(Op.bytesLess a b||a==b))
 | .geq=>some (.bool !(Op.bytesLess a b))
 |_=>none
def ml (s:ar):I->Option (Option Bool)
 | .bz=>some (some true)
 | .slice xs=>some (if xs=[]then none else some false)
 | .h x q=>match I.sub q (s x)with
   |some (.ao _ xs)=>some (if xs=[]then none else some false)
   |_=>none
 |_=>none
def mm (s:ar):I->Option Bool
 | .dS=>some true
 | .ref _=>some false
 | .h x q=>match I.sub q (s x)with
   |some (.bh _)=>some false
   |_=>none
 |_=>none
def yP (neg:Bool):Option Bool->I
 |some b=>.bool (b !=neg)
 |none=>.fs
def structEq (P:Program) (T:TypeId):Bool:= !P.stoodInHeld T&& !P.eqGuardType P.depth T&&(P.fieldsOf T).toList.all λf=>decide (f.name≠ "_")
def oR (C:cl):List (TypeId×Nat)->Nat->List I->List I->Option Bool
 |[],_,[],[]=>some true
 |(kq,off)::az,n,d::ds,e::es=>if off=n then(match(C.T kq).k,d,e with
  | .int k,.int b7 a,.int cw b=>if b7=k/\cw=k then(oR C az (n+1) ds es).map λr=>a==b&&r else none
  | .bool,.bool a,.bool b=>(oR C az (n+1) ds es).map λr=>a==b&&r
  | .str,.str a,.str b=>(oR C az (n+1) ds es).map λr=>a==b&&r
  |_,_,_=>none)else none
 |_,_,_,_=>none
def bV (C:cl) (s:ar) (op:BinOp) (T:TypeId) (x y:I):Option I:=
 match x,y with
 | .int k a,.int di b=>jQ op k a di b
 | .str a,.str b=>oh op a b
 | .bool a,.bool b=>match op,(C.T T).k with
   | .eql,.bool=>some (.bool (a==b))
   | .neq,.bool=>some (.bool !(a==b))
   |_,_=>none
 | .agg ds,.agg es=>match op,(C.T T).k with
   | .eql,.struct az=>if structEq C.P T=true then(oR C az 0 ds es).map λb=>.bool b else none
   | .neq,.struct az=>if structEq C.P T=true then(oR C az 0 ds es).map λb=>.bool !b else none
   |_,_=>none
 |x,.bz=>match op,(C.T T).k with
  | .eql,.slice _=>(ml s x).map (yP false)
  | .neq,.slice _=>(ml s x).map (yP true)
  |_,_=>none
 |x,.dS=>match op,(C.T T).k with
  | .eql,.ptr _=>(mm s x).map λb=>.bool b
  | .neq,.ptr _=>(mm s x).map λb=>.bool !b
  |_,_=>none
 |_,_=>none
theorem TU {P:Program} {op:BinOp} {T:TypeId} {k di:IntKind} {a b:Int} (he:jQ op k a di b=some av) (w:World):
  ∃v,(binOp op T (.int k a) (.int di b)).run P w= .ok v w/\aO w F s aC av v (λ_=>False):=by
 unfold jQ at he;cases op<;>simp only at he<;>split at he<;>first|(cases he;done)|skip
 all_goals
  rename_i aq;simp only[Option.some.injEq]at he;subst he
 all_goals first
  |(subst aq;simp only[binOp_add,binOp_sub,binOp_mul,binOp_eql,binOp_neq,binOp_lss,binOp_leq,binOp_gtr,binOp_geq,binOp_and,binOp_or,binOp_xor,binOp_andNot,Op.intArith,Op.intBits,Sem.run_pure,Result.ok.injEq,and_true,exists_eq_left']
    first|exact of_int _ _|exact of_bool _)
  |(obtain⟨rfl,ba⟩:=aq
    simp only[binOp_quo,binOp_rem,Op.intDiv,ba,if_false,Sem.run_pure,Result.ok.injEq,and_true,exists_eq_left'];exact of_int _ _)
  |(simp only[binOp_shl,binOp_shr,Op.shift,aq,if_false,Sem.run_pure,Result.ok.injEq,and_true,exists_eq_left']
    exact of_int _ _)
theorem yQ (a:List UInt8):(⟨⟨a⟩⟩:ByteArray).toList=a:=ByteArray.toList_eq _
theorem TV (a b:List UInt8):(⟨⟨a⟩⟩:ByteArray)++(⟨⟨b⟩⟩:ByteArray)=⟨⟨a++b⟩⟩:=by
 apply ByteArray.ext;simp[ByteArray.data_append]
theorem TW {P:Program} {op:BinOp} {T:TypeId} {a b:List UInt8} (he:oh op a b=some av) (w:World):
  ∃v,(binOp op T (.string ⟨⟨a⟩⟩) (.string ⟨⟨b⟩⟩)).run P w= .ok v w/\aO w F s aC av v (λ_=>False):=by
 have ad:∀op,binOp op T (.string ⟨⟨a⟩⟩) (.string ⟨⟨b⟩⟩)=Op.stringOp op ⟨⟨a⟩⟩ ⟨⟨b⟩⟩:=by intro op;cases op<;>rfl
 rw[ad];unfold oh at he;cases op<;>simp only[Option.some.injEq]at he<;>first|(cases he;done)|skip
 case add=>
  split at he
  .rename_i hl;simp only[Option.some.injEq]at he;subst he;have ae:((ByteArray.size ⟨⟨a⟩⟩+ByteArray.size ⟨⟨b⟩⟩:Nat):Int)<=9223372036854775807:=by
    show((a.length+b.length:Nat):Int)<=_;omega
   refine⟨.string ⟨⟨a++b⟩⟩,?_,pM _⟩;simp only[Op.stringOp,IntKind.max_i64];rw[if_neg (by omega),TV];rfl
  .cases he
 all_goals
  subst he;simp only[Op.stringOp,yQ,Sem.run_pure,Result.ok.injEq,and_true,exists_eq_left'];exact of_bool _
theorem Hb (h:bU w0 F0 X F S s aC w) {v:Value} {y:Nat} {q:List Nat} (aT:aO w F s aC (.h y q) v (λ_=>False)) {sz:Nat} {xs:List I} (aj:I.sub q (s y)=some (.ao sz xs)):
  (xs=[]/\∃a,v= .slice a 0 0)\/∃b cap cur e fr,v= .slice (some ⟨b,0,none⟩) xs.length cap/\w.heap[b]? =some (.cells cur e fr)/\nD fr cur.size/\xs.length<=cap/\cap<=maxLen/\cur.size=cap*sz/\(∀d∈xs,d.wd=sz)/\
   ∃aW,bm w F xs (cur.toList.take (xs.length*sz)) aW/\(∀c,aW c->S y c)/\S y b:=by
 rw[aO]at aT;obtain⟨c6,a,g1,g2,g3⟩:=aT _ aj rfl;have ae:Value.ha v=true:=g3;rw[hH ae]at g2;subst g2;have aw:=h.dF y;rw[aO.cT (iE aj (.inl rfl))]at aw;obtain⟨gD,c7,eP,fP,k0,b7,cw,fi,ep,fQ⟩:=ctx q (s y) (cz (aC y)) (S y) none _ aw.2 aj;rw[k0]at g1;simp only[Option.some.injEq,Prod.mk.injEq,true_and]at g1;obtain⟨rfl,rfl⟩:=g1;rw[ax]at ep;rcases ep with⟨rfl,a2,ah⟩|⟨b,cap,cur,a6,fr,eo,aQ,cC,cF,cc,b4,h8,h9,mF,nJ,er,et⟩
 .simp at ah;exact .inl ⟨rfl,_,ah⟩
 .simp at aQ;exact .inr ⟨b,cap,cur,a6,fr,aQ,cF,cc.low,b4,h8,h9,mF,eo,nJ,λc aq=>cw _ (er c aq),cw _ cC⟩
theorem Lr (h:bU w0 F0 X F S s aC w) {v:Value} {y:Nat} {q:List Nat} (aT:aO w F s aC (.h y q) v (λ_=>False)) {d:I} (aj:I.sub q (s y)=some (.bh d)):
  ∃b cur e fr,v= .pointer (some ⟨b,0,none⟩)/\w.heap[b]? =some (.cells cur e fr):=by
 rw[aO]at aT;obtain⟨c6,a,g1,g2,g3⟩:=aT _ aj rfl;have ae:Value.ha v=true:=g3;rw[hH ae]at g2;subst g2;have aw:=h.dF y;rw[aO.cT (iE aj (.inl rfl))]at aw;obtain⟨gD,c7,eP,fP,k0,b7,cw,fi,ep,fQ⟩:=ctx q (s y) (cz (aC y)) (S y) none _ aw.2 aj;rw[k0]at g1;simp only[Option.some.injEq,Prod.mk.injEq,true_and]at g1;obtain⟨rfl,rfl⟩:=g1;rw[ax]at ep;obtain⟨b,cur,a6,fr,eo,aQ,cC,cF,_⟩:=ep;simp at aQ;exact⟨b,cur,a6,fr,aQ,cF⟩
theorem Ls {P:Program} {T e:TypeId} (bj:P.underlying T=some (.slice e)) (w:World):∀d,(Op.equalIn (d+1) T (.slice none 0 0) (.slice none 0 0)).run P w= .ok true w/\
  ∀a n c,(Op.equalIn (d+1) T (.slice (some a) n c) (.slice none 0 0)).run P w= .ok false w:=by
 intro d;refine⟨by simp[Op.equalIn,run_underlying bj],λa n c=>by simp[Op.equalIn,run_underlying bj]⟩
theorem Lt {P:Program} {T e:TypeId} (bj:P.underlying T=some (.pointer e)) (w:World):∀d,(Op.equalIn (d+1) T (.pointer none) (.pointer none)).run P w= .ok true w/\
  ∀a,(Op.equalIn (d+1) T (.pointer (some a)) (.pointer none)).run P w= .ok false w:=by
 intro d;refine⟨by simp[Op.equalIn,run_underlying bj],λa=>by simp[Op.equalIn,run_underlying bj]⟩
theorem Lu {P:Program} {T:TypeId} (bj:P.underlying T=some .bool) (w:World):∀d a b,(Op.equalIn (d+1) T (.bool a) (.bool b)).run P w= .ok (a==b) w:=by
 intro d a b;simp[Op.equalIn,run_underlying bj]
theorem Lv (h:bU w0 F0 X F S s aC w) {x:I} {v:Value} (aT:aO w F s aC x v (λ_=>False)) {T e:TypeId} {r:Option Bool} (aS:ml s x=some r) (bj:C.P.underlying T=some (.slice e)):
  ∃b,(Op.equal T v (.slice none 0 0)).run C.P w= .ok b w/\(∀gp,r=some gp->gp=b)/\Value.ha v=true/\∃a n c,v= .slice a n c:=by
 have aX:=λa n c=>(Ls bj w 9999).2 a n c;have gx:=(Ls bj w 9999).1;cases x with
 |bz=>
  have:=rA aT;subst this;simp[ml]at aS;subst aS;exact⟨true,gx,by simp,rfl,_,_,_,rfl⟩
 |slice xs=>
  have bt:=(aO.cT rfl).1 aT;rw[ax,hH bt.1]at bt;simp only[ml,Option.some.injEq]at aS;obtain⟨_,⟨rfl,a,c,ah,_,tX⟩|⟨b,o,cap,eT,sz,ah,aN⟩⟩:=bt
  .simp at ah aS;subst ah;subst aS;cases a with
   |none=>
    have:=tX rfl;subst this;exact⟨true,gx,by simp,rfl,_,_,_,rfl⟩
   |some a=>exact⟨false,aX _ _ _,by simp,rfl,_,_,_,rfl⟩
  .simp at ah;subst ah;refine⟨false,aX _ _ _,?_,rfl,_,_,_,rfl⟩;subst aS;split<;>simp
 |h y q=>
  simp only[ml]at aS;split at aS
  .rename_i sz xs aj;simp only[Option.some.injEq]at aS;rcases Hb h aT aj with⟨rfl,a,rfl⟩|⟨b,cap,cur,a6,fr,rfl,_⟩
   .simp at aS;subst aS;cases a with
    |none=>exact⟨true,gx,by simp,rfl,_,_,_,rfl⟩
    |some a=>exact⟨false,aX _ _ _,by simp,rfl,_,_,_,rfl⟩
   .refine⟨false,aX _ _ _,?_,rfl,_,_,_,rfl⟩;subst aS;split<;>simp
  .cases aS
 |_=>simp[ml]at aS
theorem Lw (h:bU w0 F0 X F S s aC w) {x:I} {v:Value} (aT:aO w F s aC x v (λ_=>False)) {T e:TypeId} {r:Bool} (aS:mm s x=some r) (bj:C.P.underlying T=some (.pointer e)):
  (Op.equal T v (.pointer none)).run C.P w= .ok r w/\∃a,v= .pointer a:=by
 have aX:=λa=>(Lt bj w 9999).2 a;have gx:=(Lt bj w 9999).1;cases x with
 |dS=>
  have:=Lp aT;subst this;simp[mm]at aS;subst aS;exact⟨gx,_,rfl⟩
 |ref d=>
  have bt:=(aO.cT rfl).1 aT;rw[ax,hH bt.1]at bt;simp[mm]at aS;subst aS;obtain⟨_,b,o,eT,ah,_⟩:=bt;simp at ah;subst ah;exact⟨aX _,_,rfl⟩
 |h y q=>
  simp only[mm]at aS;split at aS
  .rename_i d aj;simp only[Option.some.injEq]at aS;subst aS;obtain⟨b,cur,e,fr,rfl,_⟩:=Lr h aT aj;exact⟨aX _,_,rfl⟩
  .cases aS
 |_=>simp[mm]at aS
theorem TX (bx:C.fc):∀(az:List (TypeId×Nat)) (gs:List Field) (n:Nat) (ds es:List I) (r:Bool) (hk l2 cv c2:List Value) (xs cK:Array Value) (ck eo:Nat->Prop),
  gs.map (λg=>(g.type,g.offset))=az->(gs.all λf=>decide (f.name≠ "_"))=true->oR C az n ds es=some r->bm w F ds cv ck->bm w F es c2 eo->xs.toList=hk++cv->hk.length=n->cK.toList=l2++c2->l2.length=n->
  ∀m,(Op.eqFields (m+1) xs cK gs).run C.P w= .ok r w:=by
 intro az;induction az with
 |nil=>
  intro gs n ds es r hk l2 cv c2 xs cK ck eo hg a7 he ag ah aw hl hy Hc m;have:gs=[]:=by simpa using hg
  subst this;cases ds<;>cases es<;>simp[oR]at he;subst he;simp[Op.eqFields]
 |cons p az ih=>
  obtain⟨kq,off⟩:=p;intro gs n ds es r hk l2 cv c2 xs cK ck eo hg a7 he ag ah aw hl hy Hc m;cases gs with
  |nil=>simp at hg
  |cons g gs=>
   simp only[List.map_cons,List.cons.injEq,Prod.mk.injEq]at hg;obtain⟨⟨rfl,rfl⟩,hg⟩:=hg;simp only[List.all_cons,Bool.and_eq_true,decide_eq_true_eq]at a7;cases ds with
   |nil=>simp[oR]at he
   |cons d ds=>
   cases es with
   |nil=>simp[oR]at he
   |cons e es=>
   simp only[oR]at he;split at he
   .rename_i qy;rw[bm]at ag ah;obtain⟨R,a2,B6,TY,rfl,fY,hU,iD,Lx,gO⟩:=ag;obtain⟨mn,jy,aGY,TZ,rfl,hz,gw,iR,iS,qA⟩:=ah;have step:∀(x y:Value) (z:Bool),(C.T g.type).flat=true->R=[x]->mn=[y]->(∀m,(Op.equalIn (m+1) g.type x y).run C.P w= .ok z w)->∀ik,oR C az (n+1) ds es=some ik->
      (Op.eqFields (m+1) xs cK (g::gs)).run C.P w= .ok (z&&ik) w:=by
     intro x y z j2 T0 T1 heq ik e3;subst T0;subst T1;have T2:xs[g.offset]? =some x:=by
      rw[<-Array.getElem?_toList,aw,qy,<-hl,List.getElem?_append_right (Nat.le_refl _)];simp
     have T3:cK[g.offset]? =some y:=by
      rw[<-Array.getElem?_toList,hy,qy,<-Hc,List.getElem?_append_right (Nat.le_refl _)];simp
     have an:=ih gs (n+1) ds es ik (hk++[x]) (l2++[y]) a2 jy xs cK TY TZ hg a7.2 e3 hU gw (by rw[aw];simp) (by simp[hl]) (by rw[hy];simp) (by simp[Hc]) m;unfold Op.eqFields;rw[if_pos a7.1];simp only[part,Sem.run_bind,G9 bx j2,Result.andThen_ok,Bool.false_eq_true,if_false,T2,T3,Sem.run_pure,heq];cases z
     .simp
     .simpa using an
    split at he
    .rename_i k b7 a cw b ay;split at he
     .rename_i T4;obtain⟨rfl,rfl⟩:=T4;rw[ax]at fY hz;simp only[Option.map_eq_some_iff]at he;obtain⟨ik,e3,rfl⟩:=he;obtain⟨i,yR,Ly,aX,a6,aQ,cC,cF,cc,b4⟩:=bx.info (gG ay (by simp));rw[ay]at b4;have tY:=yL b4;subst tY;exact step _ _ _ (by simp[hb.flat,ay]) fY hz (λm=>run_equalIn_int w m g.type _ _ a b cc) ik e3
     .cases he
    .rename_i a b ay;rw[ax]at fY hz;simp only[Option.map_eq_some_iff]at he;obtain⟨ik,e3,rfl⟩:=he;obtain⟨i,yR,Ly,aX,a6,aQ,cC,cF,cc,b4⟩:=bx.info (gG ay (by simp));rw[ay]at b4;have tY:=G4 b4;subst tY;exact step _ _ _ (by simp[hb.flat,ay]) fY hz (λm=>run_equalIn_bool' w m g.type a b cc) ik e3
    .rename_i a b ay;rw[ax]at fY hz;simp only[Option.map_eq_some_iff]at he;obtain⟨ik,e3,rfl⟩:=he;obtain⟨i,yR,Ly,aX,a6,aQ,cC,cF,cc,b4⟩:=bx.info (gG ay (by simp));rw[ay]at b4;have tY:=qx b4;subst tY;refine step _ _ (a==b) (by simp[hb.flat,ay]) fY hz (λm=>?_) ik e3;rw[run_equalIn_string w m g.type _ _ cc,yQ,yQ]
    .cases he
   .cases he
theorem Lz (bx:C.fc) {T:TypeId} {az:List (TypeId×Nat)} (ay:(C.T T).k= .struct az) {ds es:List I} {iF jx:Value} {ck eo:Nat->Prop} {r:Bool} (aw:aO w F s aC (.agg ds) iF ck) (hy:aO w F s aC (.agg es) jx eo)
  (cU:structEq C.P T=true) (he:oR C az 0 ds es=some r) (op:BinOp) (yS yT:Operand):
  (eqGuard op T yS yT iF jx).run C.P w= .ok () w/\(Op.equal T iF jx).run C.P w= .ok r w:=by
 obtain⟨i,d,z,aX,a6,aQ,cC,cF,cc,b4⟩:=bx.info (gG ay (by simp));rw[ay]at b4;obtain⟨gs,rfl,h8⟩:=yK b4;have yU:C.P.fieldsOf T=gs:=by simp[Program.fieldsOf,cc]
 simp only[structEq,Bool.and_eq_true,Bool.not_eq_true',yU]at cU;obtain⟨⟨hz,gw⟩,iR⟩:=cU;obtain⟨⟨xs,rfl⟩,wq⟩:=(aO.cT rfl).1 aw;obtain⟨⟨cK,rfl⟩,tS⟩:=(aO.cT rfl).1 hy;rw[ax]at wq tS;constructor
 .cases op<;>simp[eqGuard,gw]
 .show(Op.equalIn (9999+1) T _ _).run C.P w=_;rw[run_equalIn_struct w 9999 T xs cK (by rw[yU];exact cc) hz,yU];exact TX bx az gs.toList 0 ds es r [] [] _ _ xs cK ck eo h8 iR he wq tS rfl rfl rfl rfl 9998
theorem T5 (bx:C.fc) (h:bU w0 F0 X F S s aC w) {op:BinOp} {T:TypeId} {x y:I} {iF jx:Value} (yS yT:Operand) (aw:aO w F s aC x iF (λ_=>False)) (hy:aO w F s aC y jx (λ_=>False))
  (he:bV C s op T x y=some av):Good C w0 F0 X aC w (do eqGuard op T yS yT iF jx;binOp op T iF jx) av s:=by
 unfold bV at he;split at he
 .have:=nI aw;subst this;have:=nI hy;subst this;obtain⟨v,ag,ah⟩:=TU (P:=C.P) (T:=T) he w;refine Good.same h (v:=v) ?_ ?_ ah
  .rw[eqGuard_at_int];exact ag
  .revert he;unfold jQ;cases op<;>simp only<;>split<;>simp<;>(rintro rfl;rfl)
 .have:=mZ aw;subst this;have:=mZ hy;subst this;obtain⟨v,ag,ah⟩:=TW (P:=C.P) (T:=T) he w;refine Good.same h (v:=v) ?_ ?_ ah
  .rw[eqGuard_at_string];exact ag
  .revert he;unfold oh;cases op<;>simp only<;>(try split)<;>simp<;>(try (rintro rfl;rfl))
 .have:=sC aw;subst this;have:=sC hy;subst this;split at he
  .rename_i ay;simp only[Option.some.injEq]at he;subst he;obtain⟨i,d,z,aX,a6,aQ,cC,cF,cc,b4⟩:=bx.info (gG ay (by simp));rw[ay]at b4;have:=G4 b4;subst this;refine Good.same h ?_ rfl (of_bool _);rw[eqGuard_at_bool];simp[binOp,Op.equal,Op.maxDepth,Lu cc w 9999]
  .rename_i ay;simp only[Option.some.injEq]at he;subst he;obtain⟨i,d,z,aX,a6,aQ,cC,cF,cc,b4⟩:=bx.info (gG ay (by simp));rw[ay]at b4;have:=G4 b4;subst this;refine Good.same h ?_ rfl (of_bool _);rw[eqGuard_at_bool];simp[binOp,Op.equal,Op.maxDepth,Lu cc w 9999]
  .cases he
 .split at he
  .rename_i az ay;split at he
   .rename_i cU;simp only[Option.map_eq_some_iff]at he;obtain⟨r,aS,rfl⟩:=he;obtain⟨g1,g2⟩:=Lz bx ay aw hy cU aS .eql yS yT;obtain⟨⟨xs,rfl⟩,_⟩:=(aO.cT rfl).1 aw;obtain⟨⟨cK,rfl⟩,_⟩:=(aO.cT rfl).1 hy;exact Good.same h (by simp[g1,binOp,g2]) rfl (of_bool _)
   .cases he
  .rename_i az ay;split at he
   .rename_i cU;simp only[Option.map_eq_some_iff]at he;obtain⟨r,aS,rfl⟩:=he;obtain⟨g1,g2⟩:=Lz bx ay aw hy cU aS .neq yS yT;obtain⟨⟨xs,rfl⟩,_⟩:=(aO.cT rfl).1 aw;obtain⟨⟨cK,rfl⟩,_⟩:=(aO.cT rfl).1 hy;exact Good.same h (by simp[g1,binOp,g2]) rfl (of_bool _)
   .cases he
  .cases he
 .have:=rA hy;subst this;split at he
  .rename_i e ay;simp only[Option.map_eq_some_iff]at he;obtain⟨r,aS,rfl⟩:=he;obtain⟨i,d,z,aX,a6,aQ,cC,cF,cc,b4⟩:=bx.info (gG ay (by simp));rw[ay]at b4;have:=mh b4;subst this;obtain⟨b,ag,ah,aN,a0,bN,c0,rfl⟩:=Lv h aw aS cc;refine Good.same h (v:=.bool b) ?_ ?_ ?_
   .rw[eqGuard_at_slice];simp[binOp,ag]
   .cases r<;>rfl
   .cases r with
    |none=>exact Ha b
    |some gp=>have:=ah gp rfl;subst this;simp only[yP,Bool.bne_false];exact of_bool _
  .rename_i e ay;simp only[Option.map_eq_some_iff]at he;obtain⟨r,aS,rfl⟩:=he;obtain⟨i,d,z,aX,a6,aQ,cC,cF,cc,b4⟩:=bx.info (gG ay (by simp));rw[ay]at b4;have:=mh b4;subst this;obtain⟨b,ag,ah,aN,a0,bN,c0,rfl⟩:=Lv h aw aS cc;refine Good.same h (v:=.bool !b) ?_ ?_ ?_
   .rw[eqGuard_at_slice];simp[binOp,ag]
   .cases r<;>rfl
   .cases r with
    |none=>exact Ha _
    |some gp=>have:=ah gp rfl;subst this;simp only[yP,Bool.bne_true];exact of_bool _
  .cases he
 .have:=Lp hy;subst this;split at he
  .rename_i e ay;simp only[Option.map_eq_some_iff]at he;obtain⟨r,aS,rfl⟩:=he;obtain⟨i,d,z,aX,a6,aQ,cC,cF,cc,b4⟩:=bx.info (gG ay (by simp));rw[ay]at b4;have:=Lg b4;subst this;obtain⟨ag,a0,rfl⟩:=Lw h aw aS cc;refine Good.same h (v:=.bool r) ?_ rfl (of_bool _);rw[eqGuard_at_pointer];simp[binOp,ag]
  .rename_i e ay;simp only[Option.map_eq_some_iff]at he;obtain⟨r,aS,rfl⟩:=he;obtain⟨i,d,z,aX,a6,aQ,cC,cF,cc,b4⟩:=bx.info (gG ay (by simp));rw[ay]at b4;have:=Lg b4;subst this;obtain⟨ag,a0,rfl⟩:=Lw h aw aS cc;refine Good.same h (v:=.bool !r) ?_ rfl (of_bool _);rw[eqGuard_at_pointer];simp[binOp,ag]
  .cases he
 .cases he
end
section
variable {C:cl} {w0 w:World} {F0 X F:Nat->Prop} {S:Nat->Nat->Prop} {s s1:ar} {aC:Nat->Value} {av:I}
def un (op:UnOp) (x:I):Option I:=
 match op,x with
 | .not,.bool b=>some (.bool !b)
 | .not,.fs=>some .fs
 | .neg,.int k n=>some (.int k (k.wrap (0-n)))
 |_,_=>none
theorem T6 (h:bU w0 F0 X F S s aC w) {op:UnOp} {x:I} {v:Value} (aT:aO w F s aC x v (λ_=>False)) (he:un op x=some av):Good C w0 F0 X aC w (Op.unary op v) av s:=by
 unfold un at he;split at he<;>first|(cases he;done)|(simp only[Option.some.injEq]at he;subst he)
 .have:=sC aT;subst this;exact Good.same h rfl rfl (of_bool _)
 .obtain⟨b,rfl⟩:=Lq aT;exact Good.same h rfl rfl (Ha _)
 .have:=nI aT;subst this;exact Good.same h rfl rfl (of_int _ _)
def gg (s:ar) (x:I):Option I:=
 match x with
 | .ref d=>some (.ref d)
 | .fn f c=>some (.fn f c)
 | .h y q=>match I.sub q (s y)with
   |some (.bh _)=>some (.h y q)
   |_=>none
 |_=>none
theorem T7 {d:I} {v:Value} {aW:Nat->Prop} (h:aO w F s aC (.ref d) v aW):∃b o eT,v= .pointer (some ⟨b,o,none⟩)/\F b/\iA w b o eT/\ax w F d eT (λ_=>False):=by
 have bt:=(aO.cT rfl).1 h;rw[ax,hH bt.1]at bt;obtain⟨_,b,o,eT,ag,ah,aN,bg⟩:=bt;simp at ag;subst ag;exact⟨b,o,eT,rfl,ah,aN,bg⟩
theorem T8 (h:bU w0 F0 X F S s aC w) {x:I} {v:Value} (aT:aO w F s aC x v (λ_=>False)) (he:gg s x=some av):
  av=x/\x.plain=true/\((∃a,v= .pointer (some a))\/∃f c,v= .func (.func f) #[] c):=by
 unfold gg at he;split at he
 .simp only[Option.some.injEq]at he;subst he;obtain⟨b,o,eT,rfl,_⟩:=T7 aT;exact⟨rfl,rfl,.inl ⟨_,rfl⟩⟩
 .simp only[Option.some.injEq]at he;subst he;rw[aO]at aT;obtain⟨arr,rfl,_⟩:=aT;exact⟨rfl,rfl,.inr ⟨_,_,rfl⟩⟩
 .split at he
  .rename_i d aj;simp only[Option.some.injEq]at he;subst he;obtain⟨b,cur,e,fr,rfl,_⟩:=Lr h aT aj;exact⟨rfl,rfl,.inl ⟨_,rfl⟩⟩
  .cases he
 .cases he
def ex (s:ar) (x:I) (k:Nat):Option I:=
 match x with
 | .tuple ds=>match ds[k]? with
   |some d=>if d.plain=true then some d else none
   |none=>none
 | .h y q=>match I.sub q (s y)with
   |some (.tuple ds)=>match ds[k]? with
    |some d=>if I.ef ds=true then none else some (if d.plain then d else .h y (q++[k]))
    |none=>none
   |_=>none
 |_=>none
theorem LA:∀(vs:List Value) (k:Nat) (x:Value) (ds:List I),vs[k]? =some x->vs.length=ds.length->(∀(j:Nat) (d:I) (y:Value),ds[j]? =some d->vs[j]? =some y->(iv y).length=d.wd)->
  ∃l r,vs.flatMap iv=l++(iv x++r)/\l.length=I.eJ (ds.take k)
 |[],k,x,ds,h,_,_=>by simp at h
 |v::vs,0,x,ds,h,hl,hw=>by
  simp at h;subst h;exact⟨[],vs.flatMap iv,by simp,by simp[I.eJ]⟩
 |v::vs,k+1,x,d::ds,h,hl,hw=>by
  obtain⟨l,r,aX,a6⟩:=LA vs k x ds (by simpa using h) (by simpa using hl) (λj d y ag ah=>hw (j+1) d y (by simpa using ag) (by simpa using ah));refine⟨iv v++l,r,by simp[aX],?_⟩;have:=hw 0 d v (by simp) (by simp);simp[I.eJ,a6,this]
 |v::vs,k+1,x,[],h,hl,hw=>by simp at hl
theorem T9 {d:I} {v:Value} (h:i7 d v) (_hd:∀vs,d≠.tuple vs):cz v=iv v:=by
 cases d with
 |agg az=>obtain⟨arr,rfl⟩:=h;rfl
 |_=>
  have ag:Value.ha v=true:=h;cases v<;>first|rfl|(simp[Value.ha]at ag)
theorem T_ {d:I} {v:Value} (h:i7 d v) (aj:∀vs,d≠.tuple vs):eA d v:=by
 cases d with
 |tuple vs=>exact(aj _ rfl).elim
 |_=>exact h
theorem Ua (h:bU w0 F0 X F S s aC w) {x:I} {v:Value} {k:Nat} (aT:aO w F s aC x v (λ_=>False)) (he:ex s x k=some av):Good C w0 F0 X aC w (Instr.extract v k) av s:=by
 have pick:∀(ds:List I) (d:I) (arr:Array Value),ds[k]? =some d->(arr.size=ds.length/\∀(k:Nat) (d:I) (x:Value),ds[k]? =some d->arr[k]? =some x->i7 d x/\(∀vs,d≠.tuple vs)/\(iv x).length=d.wd)->
   ∃x,arr[k]? =some x/\eA d x/\((cz (.tuple arr)).drop (I.eJ (ds.take k))).take d.wd=cz x:=by
  intro ds d arr aj ⟨cg,lD⟩;have e6:k<arr.size:=by rw[cg];exact(List.getElem?_eq_some_iff.1 aj).1
  have aw:arr[k]? =some arr[k]:=Array.getElem?_eq_getElem e6;obtain⟨g1,g2,g3⟩:=lD k d _ aj aw;obtain⟨l,r,aX,a6⟩:=LA arr.toList k arr[k] ds (by simp[e6]) (by simpa using cg) (λj d y ag ah=>(lD j d y ag (by simpa using ah)).2.2);refine⟨_,aw,T_ g1 g2,?_⟩;rw[T9 g1 g2];simp only[cz];rw[aX];exact tM l _ r _ _ a6 g3
 unfold ex at he;split at he
 .rename_i ds;split at he
  .rename_i d aj;split at he
   .rename_i au;simp only[Option.some.injEq]at he;subst he;have bt:=(aO.cT rfl).1 aT;obtain⟨⟨arr,rfl,cg⟩,hc⟩:=bt;obtain⟨x,aw,ae,aq⟩:=pick ds d arr aj cg;have aS:(Instr.extract (.tuple arr) k).run C.P w= .ok x w:=by simp[Instr.extract,aw]
    rw[ax]at hc;obtain⟨cv,gC,c2,ck,iC,e,iu,fY,hU,iD,gO,mW⟩:=bm.pick ds _ _ k d hc aj;rw[e,tM cv gC c2 _ _ iu (ax.length _ _ _ gO)]at aq;by_cases bj:d.tree=true
    .exact Good.same h aS au ((aO.cT bj).2 ⟨ae,by rw[<-aq];exact ax.plain _ _ _ _ au gO⟩)
    .cases d<;>first|exact(bj rfl).elim|(rw[ax]at gO;exact gO.elim)|exact Good.same h aS rfl (by rw[aO];trivial)|(have bR:=ax.plain _ _ _ (λ_=>False) au gO;rw[aq,hH (by exact ae)]at bR;exact Good.same h aS rfl (aO.qz _ _ rfl bR))
   .cases he
  .cases he
 .rename_i y q;split at he
  .rename_i ds aj;split at he
   .rename_i d ay;split at he
    .cases he
    .rename_i gE;simp only[Option.some.injEq]at he;have gE:(I.tuple ds).plain=false:=by simpa [I.plain]using gE
     rw[aO]at aT;obtain⟨c6,a,g1,g2,g3⟩:=aT _ aj gE;obtain⟨arr,rfl,cg⟩:=g3;obtain⟨x,aw,ae,aq⟩:=pick ds d arr ay cg;have aS:(Instr.extract (.tuple arr) k).run C.P w= .ok x w:=by simp[Instr.extract,aw]
     have hy:=h.dF y;rw[aO.cT (iE aj (.inl gE))]at hy;obtain⟨gD,c7,eP,fP,k0,b7,cw,fi,ep,fQ⟩:=ctx q (s y) (cz (aC y)) (S y) none _ hy.2 aj;rw[k0]at g1;simp only[Option.some.injEq,Prod.mk.injEq,true_and]at g1;obtain⟨rfl,rfl⟩:=g1;rw[g2]at aq;split at he
     .rename_i au;subst he;rw[ax]at ep;obtain⟨cv,gC,c2,ck,iC,e,iu,fY,hU,iD,gO,mW⟩:=bm.pick ds _ _ k d ep ay;rw[e,tM cv gC c2 _ _ iu (ax.length _ _ _ gO)]at aq;by_cases bj:d.tree=true
      .exact Good.same h aS au ((aO.cT bj).2 ⟨ae,by rw[<-aq];exact ax.plain _ _ _ _ au gO⟩)
      .cases d<;>first|exact(bj rfl).elim|(rw[ax]at gO;exact gO.elim)|exact Good.same h aS rfl (by rw[aO];trivial)|(have bR:=ax.plain _ _ _ (λ_=>False) au gO;rw[aq,hH (by exact ae)]at bR;exact Good.same h aS rfl (aO.qz _ _ rfl bR))
     .subst he;refine Good.same h aS rfl ?_;rw[aO];intro d2 iw yG;rw[yJ w q _ _ _ _ _ _ [k] k0];rw[yI _ _ _ _ aj]at iw;simp only[I.sub,ay,Option.some.injEq]at iw;subst iw;simp only[dP,ay];exact⟨_,_,rfl,aq.symm,ae⟩
   .cases he
  .cases he
 .cases he
def na (C:cl) (s:ar) (T:TypeId) (x:I) (k:Nat):Option I:=
 match(C.T T).k with
 | .struct az=>match az[k]? with
   |some (kq,off)=>match x with
    | .agg ds=>match ds[k]? with
      |some d=>if I.eJ (ds.take k)=off/\fits C kq d=true/\d.plain=true/\d.tree=true then some d else none
      |none=>none
    | .h y q=>match I.sub q (s y)with
      |some (.agg ds)=>match ds[k]? with
       |some d=>if I.eJ (ds.take k)=off/\fits C kq d=true/\I.ef ds=false/\d.tree=true then some (if d.plain then d else .h y (q++[k]))else none
       |none=>none
      |_=>none
    |_=>none
   |none=>none
 |_=>none
theorem Ub (bx:C.fc) (h:bU w0 F0 X F S s aC w) {T:TypeId} {x:I} {v:Value} {k:Nat} (aT:aO w F s aC x v (λ_=>False)) (he:na C s T x k=some av):Good C w0 F0 X aC w (Instr.field T v k) av s:=by
 have key:∀(az:List (TypeId×Nat)) (kq:TypeId) (off:Nat),(C.T T).k= .struct az->az[k]? =some (kq,off)->∀(ds:List I) (d:I) (arr:Array Value) (aW:Nat->Prop),ds[k]? =some d->I.eJ (ds.take k)=off->fits C kq d=true->bm w F ds arr.toList aW->
   ∃x iC,(Instr.field T (.agg arr) k).run C.P w= .ok x w/\eA d x/\ax w F d (cz x) iC/\(arr.toList.drop off).take d.wd=cz x:=by
  intro az kq off ay bw ds d arr aW aj qy iP hc;obtain⟨i,yR,z,aX,a6,aQ,cC,cF,cc,b4⟩:=bx.info (gG ay (by simp));rw[ay]at b4;obtain⟨gs,rfl,h8⟩:=yK b4;obtain⟨g,g1,rfl,rfl⟩:∃g,gs[k]? =some g/\g.type=kq/\g.offset=off:=by
   rw[<-h8,List.getElem?_map]at bw;simp only[Option.map_eq_some_iff,Prod.mk.injEq]at bw;obtain⟨g,ag,ah,aN⟩:=bw;exact⟨g,by simpa using ag,ah,aN⟩
  obtain⟨cv,gC,c2,ck,iC,e,iu,fY,hU,iD,gO,mW⟩:=bm.pick ds _ _ k d hc aj;obtain⟨x,aS,LB,nH⟩:=TJ (w:=w) bx e (iu.trans qy) gO iP;refine⟨x,iC,?_,nH,by rw[LB];exact gO,?_⟩
  .simp[Instr.field,run_underlying cc,g1,asAgg,aS]
  .rw[e,LB,<-qy];exact tM cv gC c2 _ _ iu (ax.length _ _ _ gO)
 have LC:∀(d:I) (x:Value) (iC:Nat->Prop),d.plain=true->eA d x->ax w F d (cz x) iC->aO w F s aC d x (λ_=>False):=by
  intro d x iC au ae hc;by_cases bj:d.tree=true
  .exact(aO.cT bj).2 ⟨ae,ax.plain _ _ _ _ au hc⟩
  .cases d<;>first|exact(bj rfl).elim|(rw[ax]at hc;exact hc.elim)|(rw[aO];trivial)|(have bR:=ax.plain _ _ _ (λ_=>False) au hc;rw[hH (by exact ae)]at bR;exact aO.qz _ _ rfl bR)
 unfold na at he;split at he
 .rename_i az ay;split at he
  .rename_i kq off bw;split at he
   .rename_i ds;split at he
    .rename_i d aj;split at he
     .rename_i aq;simp only[Option.some.injEq]at he;subst he;obtain⟨⟨arr,rfl⟩,hc⟩:=(aO.cT rfl).1 aT;rw[ax]at hc;obtain⟨x,iC,aS,ae,sD,_⟩:=key az kq off ay bw ds d arr _ aj aq.1 aq.2.1 hc;exact Good.same h aS aq.2.2.1 (LC d x iC aq.2.2.1 ae sD)
     .cases he
    .cases he
   .rename_i y q;split at he
    .rename_i ds aj;split at he
     .rename_i d nG;split at he
      .rename_i aq;simp only[Option.some.injEq]at he;have gE:(I.agg ds).plain=false:=by simpa [I.plain]using aq.2.2.1
       rw[aO]at aT;obtain⟨c6,a,g1,g2,g3⟩:=aT _ aj gE;obtain⟨arr,rfl⟩:=g3;have hy:=h.dF y;rw[aO.cT (iE aj (.inl gE))]at hy;obtain⟨gD,c7,eP,fP,k0,b7,cw,fi,ep,fQ⟩:=ctx q (s y) (cz (aC y)) (S y) none _ hy.2 aj;rw[k0]at g1;simp only[Option.some.injEq,Prod.mk.injEq,true_and]at g1;obtain⟨rfl,rfl⟩:=g1;rw[ax,<-g2]at ep;obtain⟨x,iC,aS,ae,sD,hI⟩:=key az kq off ay bw ds d arr _ nG aq.1 aq.2.1 ep;by_cases au:d.plain=true
       .rw[if_pos au]at he;subst he;exact Good.same h aS au (LC d x iC au ae sD)
       .rw[if_neg au]at he;subst he;refine Good.same h aS rfl ?_;rw[aO];intro d2 iw yG;rw[yJ w q _ _ _ _ _ _ [k] k0];rw[yI _ _ _ _ aj]at iw;simp only[I.sub,nG,Option.some.injEq]at iw;subst iw;simp only[dP,nG];refine⟨_,_,rfl,?_,ae⟩;rw[aq.1,<-g2];exact hI.symm
      .cases he
     .cases he
    .cases he
   .cases he
  .cases he
 .cases he
end
section
variable {C:cl} {w0 w:World} {F0 X F:Nat->Prop} {S:Nat->Nat->Prop} {s s1:ar} {aC:Nat->Value} {av:I}
def idx (C:cl) (T:TypeId) (x i:I):Option I:=
 match(C.T T).k,x,i with
 | .str,.str l,.int _ n=>if 0<=n then(match l[n.toNat]? with|some b=>some (.int .u8 b.toNat)|none=>none)else none
 |_,_,_=>none
theorem Uc (l:List UInt8) (n:Nat):(⟨⟨l⟩⟩:ByteArray)[n]? =l[n]? :=by
 by_cases h:n<l.length
 .have bt:n<(⟨⟨l⟩⟩:ByteArray).size:=h;rw[List.getElem?_eq_getElem h,getElem?_pos (⟨⟨l⟩⟩:ByteArray) n bt];rfl
 .have bt:¬n<(⟨⟨l⟩⟩:ByteArray).size:=h;rw[List.getElem?_eq_none (by omega),getElem?_neg (⟨⟨l⟩⟩:ByteArray) n bt]
theorem Ud (bx:C.fc) (h:bU w0 F0 X F S s aC w) {T:TypeId} {x i:I} {v oQ:Value} (aT:aO w F s aC x v (λ_=>False)) (an:aO w F s aC i oQ (λ_=>False)) (he:idx C T x i=some av):
  Good C w0 F0 X aC w (Instr.index T v oQ) av s:=by
 unfold idx at he;split at he
 .rename_i l k n ay;have:=mZ aT;subst this;have:=nI an;subst this;obtain⟨i,d,z,aX,a6,aQ,cC,cF,cc,b4⟩:=bx.info (gG ay (by simp));rw[ay]at b4;have:=qx b4;subst this;split at he
  .rename_i a7;split at he
   .rename_i b ad;simp only[Option.some.injEq]at he;subst he;refine Good.same h ?_ rfl (of_int _ _);simp[Instr.index,asIntOf,run_underlying cc,a7,Uc,ad]
   .cases he
  .cases he
 .cases he
def lenOf (s:ar):I->Option Nat
 | .str l=>some l.length
 | .bz=>some 0
 | .slice xs=>some xs.length
 | .h y q=>match I.sub q (s y)with
   |some (.ao _ xs)=>some xs.length
   |_=>none
 |_=>none
def nb (C:cl) (s:ar) (T:TypeId) (x:I):Option I:=
 match(C.T T).k,x with
 | .str,.str l=>some (.int .i64 l.length)
 | .slice _,.bz=>some (.int .i64 0)
 | .slice _,.slice xs=>some (.int .i64 xs.length)
 | .slice _,.h y q=>match I.sub q (s y)with
   |some (.ao _ xs)=>some (.int .i64 xs.length)
   |_=>none
 |_,_=>none
theorem B7 {xs:List I} {v:Value} {aW:Nat->Prop} (h:aO w F s aC (.slice xs) v aW):(xs=[]/\∃a c,v= .slice a 0 c/\c<=maxLen/\(a=none->c=0))\/
  ∃b o cap eT sz,v= .slice (some ⟨b,o,none⟩) xs.length cap/\F b/\xs.length<=cap/\cap<=maxLen/\(∀d∈xs,d.wd=sz)/\iA w b o eT/\bm w F xs eT (λ_=>False):=by
 have bt:=(aO.cT rfl).1 h;rw[ax,hH bt.1]at bt;obtain⟨_,⟨rfl,a,c,ah,aN⟩|⟨b,o,cap,eT,sz,ah,aN⟩⟩:=bt
 .simp at ah;exact .inl ⟨rfl,a,c,ah,aN⟩
 .simp at ah;exact .inr ⟨b,o,cap,eT,sz,ah,aN⟩
theorem Ue (bx:C.fc) (h:bU w0 F0 X F S s aC w) {T ty:TypeId} {x:I} {v:Value} (aT:aO w F s aC x v (λ_=>False)) (he:nb C s T x=some av):
  Good C w0 F0 X aC w (Builtin.len_ #[T] ty #[v]) av s:=by
 unfold nb at he;split at he
 .rename_i l ay;have:=mZ aT;subst this;obtain⟨i,d,z,aX,a6,aQ,cC,cF,cc,b4⟩:=bx.info (gG ay (by simp));rw[ay]at b4;have:=qx b4;subst this;simp only[Option.some.injEq]at he;subst he;refine Good.same h ?_ rfl (of_int _ _);simp[Builtin.len_,run_underlying cc,goInt];rfl
 .rename_i e ay;have:=rA aT;subst this;obtain⟨i,d,z,aX,a6,aQ,cC,cF,cc,b4⟩:=bx.info (gG ay (by simp));rw[ay]at b4;have:=mh b4;subst this;simp only[Option.some.injEq]at he;subst he;refine Good.same h ?_ rfl (of_int _ _);simp[Builtin.len_,run_underlying cc,goInt]
 .rename_i e xs ay;obtain⟨i,d,z,aX,a6,aQ,cC,cF,cc,b4⟩:=bx.info (gG ay (by simp));rw[ay]at b4;have:=mh b4;subst this;simp only[Option.some.injEq]at he;subst he;refine Good.same h ?_ rfl (of_int _ _);rcases B7 aT with⟨rfl,a,c,rfl,_⟩|⟨b,o,cap,eT,sz,rfl,_⟩<;>simp[Builtin.len_,run_underlying cc,goInt]
 .rename_i e y q ay;split at he
  .rename_i sz xs aj;obtain⟨i,d,z,aX,a6,aQ,cC,cF,cc,b4⟩:=bx.info (gG ay (by simp));rw[ay]at b4;have:=mh b4;subst this;simp only[Option.some.injEq]at he;subst he;refine Good.same h ?_ rfl (of_int _ _);rcases Hb h aT aj with⟨rfl,_,rfl⟩|⟨b,cap,cur,a6,fr,rfl,_⟩<;>simp[Builtin.len_,run_underlying cc,goInt]
  .cases he
 .cases he
def bytesOf:List I->Option (List UInt8)
 |[]=>some []
 | .int .u8 n::r=>if 0<=n/\n<256 then(bytesOf r).map (UInt8.ofNat n.toNat::·)else none
 |_=>none
def lF (b:UInt8):I:=.int .u8 b.toNat
theorem Uf (l:List UInt8):bytesOf (l.map lF)=some l:=by
 induction l with
 |nil=>rfl
 |cons b l ih=>
  have ad:b.toNat<256:=b.toNat_lt;simp only[List.map_cons,lF,bytesOf,Int.toNat_natCast];rw[if_pos (by omega),ih];simp
theorem Hd:∀(xs:List I) (l:List UInt8) (cs:List Value) (aW:Nat->Prop),bytesOf xs=some l->bm w F xs cs aW->cs=l.map (λb=>.int .u8 (b.toNat:Int))/\xs.length=l.length
 |[],l,cs,aW,h,aS=>by simp[bytesOf]at h;subst h;rw[bm]at aS;subst aS;exact⟨rfl,rfl⟩
 |x::xs,l,cs,aW,h,aS=>by
  unfold bytesOf at h;split at h
  .rename_i e;cases e
  .rename_i n r e;simp only[List.cons.injEq]at e;obtain⟨rfl,rfl⟩:=e;split at h
   .rename_i a7;simp only[Option.map_eq_some_iff]at h;obtain⟨eO,ag,rfl⟩:=h;rw[bm]at aS;obtain⟨cv,c2,ck,eo,rfl,ah,aN,_⟩:=aS;obtain⟨rfl,bg⟩:=Hd xs eO c2 eo ag aN;rw[ax]at ah;subst ah;refine⟨?_,by simp[bg]⟩;simp only[List.map_cons,List.cons_append,List.nil_append,List.cons.injEq,and_true,Value.int.injEq,true_and];simp only[UInt8.toNat_ofNat'];omega
   .cases h
  .cases h
theorem bU.yV (h:bU w0 F0 X F S s aC w) {aL:World} {sz cap:Nat} {xs:List I} {cur:Array Value} {e:TypeId} {fr:Nat×Nat} {Sn:Nat->Prop}
  (hw:aL.heap=w.heap.push (.cells cur e fr)) (ag:aL.os=w.os) (ah:aL.tape=w.tape) (aN:Out aL w)
  (bw:nD fr (cur.size+(sz-1))) (hle:xs.length<=cap) (hm:cap<=maxLen) (eM:cur.size=cap*sz) (lC:∀d∈xs,d.wd=sz) (aT:bm w F xs (cur.toList.take (xs.length*sz)) Sn)
  (e6:∀b,Sn b->b<w.heap.size) (bL:∀b,Sn b->¬F b) (b8:∀u b,Sn b->¬S u b) (ba:∀b,Sn b->X b\/w0.heap.size<=b):
  bU w0 F0 X F S s aC aL/\mg w0 X F S s aC aL (.ao sz xs) (.slice (some ⟨w.heap.size,0,none⟩) xs.length cap):=by
 have hold:∀b,b<w.heap.size->aL.heap[b]? =w.heap[b]? :=by
  intro b ad;rw[hw,Array.getElem?_push,if_neg (by omega)]
 have aGZ:aL.heap.size=w.heap.size+1:=by rw[hw];simp
 refine⟨h.grow hold (by omega) ag ah aN,.inr ⟨rfl,rfl,λb=>b=w.heap.size\/Sn b,?_,?_,?_,?_,?_⟩⟩
 .simp only[cz,iv];rw[ax];refine .inr ⟨w.heap.size,cap,cur,e,fr,Sn,rfl,.inl rfl,?_,bw,hle,hm,eM,lC,?_,λc aq=>.inr aq,λaq=>Nat.lt_irrefl _ (e6 _ aq)⟩
  .rw[hw];simp
  .exact bm.frame (λb ad=>hold b (h.fy b ad)) _ _ _ (λb ad=>hold b (e6 b ad)) aT
 .rintro b (rfl|ad)
  .omega
  .have:=e6 b ad;omega
 .rintro b (rfl|ad) rz
  .exact Nat.lt_irrefl _ (h.fy _ rz)
  .exact bL b ad rz
 .rintro u b (rfl|ad) hu
  .exact Nat.lt_irrefl _ (h.e7 _ _ hu)
  .exact b8 u b ad hu
 .rintro b (rfl|ad)
  .exact .inr h.size
  .exact ba b ad
def gI (C:cl) (s:ar) (A B:TypeId) (x:I):Option I:=
 if(C.T A).ok=true then
 match(C.T B).k,x with
 | .int k,.int _ n=>some (.int k (k.wrap n))
 | .str,.str l=>match(C.T A).k with
   | .str=>some (.str l)
   |_=>none
 | .str,x=>match(C.T A).k with
   | .slice e=>match(C.T e).k with
     | .int .u8=>match x with
       | .bz=>some (.str [])
       | .slice xs=>(bytesOf xs).map .str
       | .h y q=>match I.sub q (s y)with
         |some (.ao 1 xs)=>(bytesOf xs).map .str
         |_=>none
       |_=>none
     |_=>none
   |_=>none
 | .slice e,.str l=>match(C.T A).k,(C.T e).k with
   | .str,.int .u8=>if l.length<=9223372036854775807 then some (.ao 1 (l.map lF))else none
   |_,_=>none
 |_,_=>none
 else none
theorem LD (l:List UInt8) (aW:Nat->Prop):bm w F (l.map lF) (l.map λb=>.int .u8 (b.toNat:Int)) aW:=by
 induction l generalizing aW with
 |nil=>simp only[List.map_nil];rw[bm]
 |cons b l ih=>
  simp only[List.map_cons];rw[bm];exact⟨[.int .u8 (b.toNat:Int)],_,λ_=>False,λ_=>False,rfl,by rw[lF,ax],ih _,λ_ h=>h.elim,λ_ h=>h.elim,λ_ h=>h.elim⟩
theorem Ug (bx:C.fc) (h:bU w0 F0 X F S s aC w) {A B:TypeId} {x:I} {v:Value} (aT:aO w F s aC x v (λ_=>False)) (he:gI C s A B x=some av):
  Good C w0 F0 X aC w (convert A B v) av s:=by
 unfold gI at he;split at he
 .rename_i jR;obtain⟨fp,aG0,aG1,R,a2,a3,a4,a5,qB,qC⟩:=bx.info jR;split at he
  .rename_i k di n ay;have:=nI aT;subst this;obtain⟨i,d,z,aX,a6,aQ,cC,cF,cc,b4⟩:=bx.info (gG ay (by simp));rw[ay]at b4;have:=yL b4;subst this;simp only[Option.some.injEq]at he;subst he;refine Good.same h ?_ rfl (of_int _ _);simp[convert,run_underlying qB,run_underlying cc,Conv.intToInt]
  .rename_i l ay;have:=mZ aT;subst this;obtain⟨i,d,z,aX,a6,aQ,cC,cF,cc,b4⟩:=bx.info (gG ay (by simp));rw[ay]at b4;have:=qx b4;subst this;split at he
   .rename_i yW;rw[yW]at qC;have:=qx qC;subst this;simp only[Option.some.injEq]at he;subst he;refine Good.same h ?_ rfl (pM _);simp[convert,run_underlying qB,run_underlying cc]
   .cases he
  .rename_i x ay _;obtain⟨i,d,z,aX,a6,aQ,cC,cF,cc,b4⟩:=bx.info (gG ay (by simp));rw[ay]at b4;have:=qx b4;subst this;split at he
   .rename_i e yW;rw[yW]at qC;have:=mh qC;subst this;split at he
    .rename_i yX;obtain⟨ru,bE,rv,f1,f2,f3,f4,f5,f6,f7⟩:=bx.info (gG yX (by simp));rw[yX]at f7;have:=yL f7;subst this;have fin:∀(l:List UInt8) (b o cap:Nat),iA w b o (l.map λb=>.int .u8 (b.toNat:Int))->(convert A B (.slice (some ⟨b,o,none⟩) l.length cap)).run C.P w= .ok (.string ⟨⟨l⟩⟩) w:=by
      intro l b o cap kI;refine run_convert_bytes_back w A B e ⟨b,o,none⟩ cap l qB f6 cc (λj cH=>?_);rw[Addr.add_lit];exact kI j _ (by simp[cH])
     have nil:(convert A B (.slice none 0 0)).run C.P w= .ok (.string ⟨⟨[]⟩⟩) w:=by
      simp[convert,run_underlying qB,run_underlying cc,run_underlying f6,Conv.bytesToString];rfl
     split at he
     .have:=rA aT;subst this;simp only[Option.some.injEq]at he;subst he;exact Good.same h nil rfl (pM _)
     .rename_i xs _;simp only[Option.map_eq_some_iff]at he;obtain⟨l,hl,rfl⟩:=he;rcases B7 aT with⟨rfl,a,c,rfl,_,tX⟩|⟨b,o,cap,eT,sz,rfl,ag,ah,aN,bg,bR,cW⟩
      .simp[bytesOf]at hl;subst hl;cases a with
       |none=>
        have:=tX rfl;subst this;exact Good.same h nil rfl (pM _)
       |some a=>
        refine Good.same h ?_ rfl (pM _);exact run_convert_bytes_back w A B e a c [] qB f6 cc (λj cH=>by simp at cH)
      .obtain⟨rfl,cE⟩:=Hd xs l eT _ hl cW;rw[cE];exact Good.same h (fin l b o cap bR) rfl (pM _)
     .rename_i y q;split at he
      .rename_i xs aj;simp only[Option.map_eq_some_iff]at he;obtain⟨l,hl,rfl⟩:=he;rcases Hb h aT aj with⟨rfl,a,rfl⟩|⟨b,cap,cur,a6,fr,rfl,ag,ah,aN,bg,bR,cW,aW,cE,_⟩
       .simp[bytesOf]at hl;subst hl;cases a with
        |none=>exact Good.same h nil rfl (pM _)
        |some a=>
         refine Good.same h ?_ rfl (pM _);exact run_convert_bytes_back w A B e a 0 [] qB f6 cc (λj cH=>by simp at cH)
       .obtain⟨fJ,hT⟩:=Hd xs l _ _ hl cE;rw[hT];refine Good.same h (fin l b 0 cap ?_) rfl (pM _);rw[<-fJ];exact wh ag _
      .cases he
     .cases he
    .cases he
   .cases he
  .rename_i e l ay;have:=mZ aT;subst this;obtain⟨i,d,z,aX,a6,aQ,cC,cF,cc,b4⟩:=bx.info (gG ay (by simp));rw[ay]at b4;have:=mh b4;subst this;split at he
   .rename_i yW yX;rw[yW]at qC;have:=qx qC;subst this;obtain⟨ru,bE,rv,f1,f2,f3,f4,f5,f6,f7⟩:=bx.info (gG yX (by simp));rw[yX]at f7;have:=yL f7;subst this;split at he
    .rename_i hl;simp only[Option.some.injEq]at he;subst he;have ae:(⟨⟨l⟩⟩:ByteArray).size=l.length:=rfl;have yY:=grownCap_ge w l.length 0 e;have Uh:=grownCap_le_maxLen w l.length 0 e (by unfold maxLen;omega);have LF:(bytesRow ⟨⟨l⟩⟩ (grownCap w l.length 0 e)).toList=l.map (λb=>Value.int .u8 (b.toNat:Int))++List.replicate (grownCap w l.length 0 e-l.length) (.int .u8 0):=by
      simp[bytesRow,ae]
     have eM:(bytesRow ⟨⟨l⟩⟩ (grownCap w l.length 0 e)).size=grownCap w l.length 0 e*1:=by
      have:(bytesRow ⟨⟨l⟩⟩ (grownCap w l.length 0 e)).size=(bytesRow ⟨⟨l⟩⟩ (grownCap w l.length 0 e)).toList.length:=by simp
      rw[this,LF];simp;omega
     have tV:=run_bytes_of_string w A B e ⟨⟨l⟩⟩ qB cc f6;rw[ae]at tV;have la:=h.yV (aL:=w.drew.alloc (.cells (bytesRow ⟨⟨l⟩⟩ (grownCap w l.length 0 e)) e ((bytesRow ⟨⟨l⟩⟩ (grownCap w l.length 0 e)).size,(bytesRow ⟨⟨l⟩⟩ (grownCap w l.length 0 e)).size+1)))
      (sz:=1) (cap:=grownCap w l.length 0 e) (xs:=l.map lF) (cur:=bytesRow ⟨⟨l⟩⟩ (grownCap w l.length 0 e)) (e:=e) (Sn:=λ_=>False) rfl rfl rfl ⟨rfl,λ_=>Nat.le_succ _⟩
      (λo cy ⟨ag,_⟩=>by simp only at ag;omega) (by simpa using yY) Uh eM (by intro d aj;obtain⟨b,_,rfl⟩:=List.mem_map.1 aj;rfl)
      (by rw[LF,List.take_left' (by simp)];exact LD l _) (λ_ h=>h.elim) (λ_ h=>h.elim) (λ_ _ h=>h.elim) (λ_ h=>h.elim)
     simp only[List.length_map]at la;exact⟨_,_,F,S,tV,la.1,la.2⟩
    .cases he
   .cases he
  .cases he
 .cases he
end
section
variable {C:cl} {w0 w:World} {F0 X F:Nat->Prop} {S:Nat->Nat->Prop} {s s1:ar} {aC:Nat->Value} {av:I}
def iN (d:Nat):Option I->Option Nat
 |none=>some d
 |some (.int _ n)=>if 0<=n then some n.toNat else none
 |some _=>none
def eE (C:cl) (s:ar) (T:TypeId) (x:I) (dv an:Option I):Option (I×ar):=
 match(C.T T).k,x with
 | .str,.str l=>match iN 0 dv,iN l.length an with
   |some a,some b=>if a<=b/\b<=l.length then some (.str ((l.take b).drop a),s)else none
   |_,_=>none
 | .slice e,.bz=>match iN 0 dv,iN 0 an with
   |some 0,some 0=>if(C.T e).ok=true then some (.bz,s)else none
   |_,_=>none
 | .slice e,.slice xs=>match iN 0 dv,iN xs.length an with
   |some a,some b=>if a<=b/\b<=xs.length/\(C.T e).ok=true/\(∀d∈xs,d.wd=(C.T e).sz)then some (.slice ((xs.take b).drop a),s)else none
   |_,_=>none
 | .slice e,.h y q=>match I.sub q (s y)with
   |some (.ao sz xs)=>match iN 0 dv,iN xs.length an with
    |some 0,some b=>if b<=xs.length/\(C.T e).ok=true then(match db s (.h y q)with|some (_,s1)=>some (.ao sz (xs.take b),s1)|none=>none)else none
    |_,_=>none
   |_=>none
 |_,_=>none
def rB (w:World) (F:Nat->Prop) (s:ar) (aC:Nat->Value):Option I->Option Value->Prop
 |none,none=>True
 |some d,some v=>aO w F s aC d v (λ_=>False)
 |_,_=>False
theorem LG {d:Nat} {o:Option I} {v:Option Value} (cy:rB w F s aC o v) {a:Nat} (h:iN d o=some a):(o=none/\v=none/\a=d)\/∃k,v=some (.int k a):=by
 cases o with
 |none=>
  cases v with
  |none=>simp[iN]at h;exact .inl ⟨rfl,rfl,h.symm⟩
  |some v=>simp[rB]at cy
 |some x=>
  cases v with
  |none=>simp[rB]at cy
  |some v=>
   simp only[rB]at cy;cases x with
   |int k n=>
    have:=nI cy;subst this;simp only[iN]at h;split at h
    .rename_i a7;simp only[Option.some.injEq]at h;subst h;obtain⟨m,rfl⟩:=Int.eq_ofNat_of_zero_le a7;exact .inr ⟨k,rfl⟩
    .cases h
   |_=>simp[iN]at h
theorem wt {P:Program} {isS:Bool} {len cap a b:Nat} {dv an:Option I} {tZ t_:Option Value} (oS:rB w F s aC dv tZ) (oT:rB w F s aC an t_) (cf:iN 0 dv=some a) (ad:iN len an=some b) (mV:a<=b) (Ui:b<=cap) (_hlc:len<=cap):
  (Instr.sliceBounds isS len cap tZ t_ none).run P w= .ok (a,b,cap) w:=by
 rcases LG oS cf with⟨_,rfl,rfl⟩|⟨k,rfl⟩<;>rcases LG oT ad with⟨_,rfl,rfl⟩|⟨di,rfl⟩<;>
  simp[Instr.sliceBounds,Instr.sliceBound,asIntOf,mV,Ui]
theorem wu (bx:C.fc) {T:TypeId} (ay:(C.T T).flat=true) (v:Value) (dv an e2:Option Value) (w:World):(Instr.sliceAt T v dv an e2).run C.P w=(Instr.slice T v dv an e2).run C.P w:=by
 obtain⟨i,d,z,aX,a6,aQ,cC,cF,cc,b4⟩:=bx.info (Lj ay);have dL:∀n e,d≠.array n e:=by
  clear cc;unfold hb.flat at ay;generalize (C.T T).k=mj at*;cases mj<;>cases d<;>simp[mf]at b4 ay⊢
 cases d<;>first|exact(dL _ _ rfl).elim|simp[Instr.sliceAt,run_underlying cc]
theorem wv {x:hb} {k:od} (h:x.k=k) (ay:k≠.other) (ae:∀az,k≠.struct az) (ad:∀e,k≠.fA e:=by simp):x.flat=true:=by
 unfold hb.flat;rw[h];cases k<;>first|rfl|exact(ay rfl).elim|exact(ad _ rfl).elim|exact(ae _ rfl).elim
theorem bm.split:∀(n:Nat) (xs:List I) (cs:List Value) (aW:Nat->Prop),bm w F xs cs aW->∃cv c2 ck eo,cs=cv++c2/\bm w F (xs.take n) cv ck/\bm w F (xs.drop n) c2 eo/\(∀b,ck b->aW b)/\(∀b,eo b->aW b)/\(∀b,ck b->¬eo b)
 |0,xs,cs,aW,h=>⟨[],cs,λ_=>False,aW,rfl,by rw[List.take_zero,bm],h,λ_ h=>h.elim,λ_ h=>h,λ_ h=>h.elim⟩
 |n+1,[],cs,aW,h=>by rw[bm]at h;subst h;exact⟨[],[],λ_=>False,λ_=>False,rfl,by rw[List.take_nil,bm],by rw[List.drop_nil,bm],λ_ h=>h.elim,λ_ h=>h.elim,λ_ h=>h.elim⟩
 |n+1,x::xs,cs,aW,h=>by
  rw[bm]at h;obtain⟨cv,c2,ir,hF,rfl,ag,ah,aN,bg,bR⟩:=h;obtain⟨d1,d2,ck,eo,rfl,g1,g2,g3,g4,g5⟩:=bm.split n xs c2 hF ah;refine⟨cv++d1,d2,λb=>ir b\/ck b,eo,by simp,?_,g2,?_,λb ad=>bg _ (g4 _ ad),?_⟩
  .rw[List.take_succ_cons,bm];exact⟨cv,d1,ir,ck,rfl,ag,g1,λ_ h=>.inl h,λ_ h=>.inr h,λb ad aq=>bR b ad (g3 b aq)⟩
  .rintro b (ad|ad)
   .exact aN b ad
   .exact bg b (g3 b ad)
  .rintro b (ad|ad) aq
   .exact bR b ad (g4 b aq)
   .exact g5 b ad aq
theorem Uj (bx:C.fc) (h:bU w0 F0 X F S s aC w) {T:TypeId} {x:I} {v:Value} {dv an:Option I} {tZ t_:Option Value} (aw:x.plain=true) (aT:aO w F s aC x v (λ_=>False)) (oS:rB w F s aC dv tZ) (oT:rB w F s aC an t_)
  (he:eE C s T x dv an=some (av,s1)):Good C w0 F0 X aC w (Instr.sliceAt T v tZ t_ none) av s1:=by
 unfold eE at he;split at he
 .rename_i l ay;have:=mZ aT;subst this;obtain⟨i,d,z,aX,a6,aQ,cC,cF,cc,b4⟩:=bx.info (gG ay (by simp));rw[ay]at b4;have:=qx b4;subst this;split at he
  .rename_i a b cf ad;split at he
   .rename_i mV;simp only[Option.some.injEq,Prod.mk.injEq]at he;obtain⟨rfl,rfl⟩:=he;refine Good.same h ?_ rfl (pM _);rw[wu bx (wv ay (by simp) (by simp))];have eM:(⟨⟨l⟩⟩:ByteArray).size=l.length:=rfl;have oU:=wt (P:=C.P) (isS:=false) (len:=l.length) (cap:=l.length) oS oT cf ad mV.1 mV.2 (Nat.le_refl _);have Uk:(⟨⟨l⟩⟩:ByteArray).extract a b=⟨⟨(l.take b).drop a⟩⟩:=by
     apply ByteArray.ext;simp[ByteArray.data_extract,List.drop_take]
    simp[Instr.slice,run_underlying cc,eM,oU,Uk]
   .cases he
  .cases he
 .rename_i e ay;have:=rA aT;subst this;obtain⟨i,d,z,aX,a6,aQ,cC,cF,cc,b4⟩:=bx.info (gG ay (by simp));rw[ay]at b4;have:=mh b4;subst this;split at he
  .rename_i cf ad;split at he
   .rename_i pN;obtain⟨ru,bE,rv,f1,f2,f3,f4,f5,f6,f7⟩:=bx.info pN;simp only[Option.some.injEq,Prod.mk.injEq]at he;obtain⟨rfl,rfl⟩:=he;have oU:=wt (P:=C.P) (isS:=true) (len:=0) (cap:=0) oS oT cf ad (Nat.le_refl _) (Nat.le_refl _) (Nat.le_refl _);refine Good.same h (v:=.slice none 0 0) ?_ rfl aT;rw[wu bx (wv ay (by simp) (by simp))];simp[Instr.slice,run_underlying cc,oU,kJ f1,f2]
   .cases he
  .cases he
 .rename_i e xs ay;obtain⟨i,d,z,aX,a6,aQ,cC,cF,cc,b4⟩:=bx.info (gG ay (by simp));rw[ay]at b4;have:=mh b4;subst this;split at he
  .rename_i a b cf ad;split at he
   .rename_i mV;obtain⟨Ul,LH,pN,lC⟩:=mV;obtain⟨ru,bE,rv,f1,f2,f3,f4,f5,f6,f7⟩:=bx.info pN;simp only[Option.some.injEq,Prod.mk.injEq]at he;obtain⟨rfl,rfl⟩:=he;rcases B7 aT with⟨rfl,wx,c,rfl,yZ,tX⟩|⟨kc,o,cap,eT,sz,rfl,ag,ah,aN,bg,bR,cW⟩
    .have ix:b=0:=by simpa using LH
     subst ix;have Um:a=0:=by omega
     subst Um;have oU:=wt (P:=C.P) (isS:=true) (len:=0) (cap:=c) oS oT cf ad (Nat.le_refl _) (Nat.zero_le _) (Nat.zero_le _);refine Good.same h (v:=.slice wx 0 c) ?_ rfl ((aO.cT rfl).2 ⟨rfl,by rw[ax];exact .inl ⟨rfl,wx,c,rfl,yZ,tX⟩⟩);rw[wu bx (wv ay (by simp) (by simp))];cases wx with
     |none=>
      have:=tX rfl;subst this;simp[Instr.slice,run_underlying cc,oU,kJ f1,f2]
     |some wx=>simp[Instr.slice,run_underlying cc,oU,kJ f1,f2,Addr.add]
    .have oU:=wt (P:=C.P) (isS:=true) (len:=xs.length) (cap:=cap) oS oT cf ad Ul (Nat.le_trans LH ah) ah;obtain⟨cv,c2,ck,eo,rfl,g1,g2,g3,g4,g5⟩:=bm.split b xs eT _ cW;obtain⟨d1,d2,aG2,LI,rfl,b7,cw,fi,ep,fQ⟩:=bm.split a (xs.take b) cv _ g1;have He:d1.length=a*(C.T e).sz:=by
      rw[bm.length _ _ _ b7,tO _ (λd aj=>lC d (List.mem_of_mem_take (List.mem_of_mem_take aj))),List.length_take,List.length_take];congr 1;omega
     have hlen:((xs.take b).drop a).length=b-a:=by simp;omega
     have kI:iA w kc (o+a*(C.T e).sz) d2:=by
      rw[<-He];have:iA w kc o (d1++(d2++c2)):=by simpa using bR
      exact this.G6
     have B8:bm w F ((xs.take b).drop a) d2 (λ_=>False):=bm.mono (λ_ h=>h) _ _ _ _ (λb ad=>(g3 _ (ep _ ad)).elim) cw;have mem:∀d∈(xs.take b).drop a,d.wd=sz:=λd aj=>bg d (List.mem_of_mem_take (List.mem_of_mem_drop aj));have run:(Instr.sliceAt T (.slice (some ⟨kc,o,none⟩) xs.length cap) tZ t_ none).run C.P w= .ok (.slice (if cap=a then some ⟨kc,o,none⟩else some ⟨kc,o+a*(C.T e).sz,none⟩) (b-a) (cap-a)) w:=by
      rw[wu bx (wv ay (by simp) (by simp))];simp[Instr.slice,run_underlying cc,oU,kJ f1,f2,Addr.add_lit]
     refine⟨_,w,F,S,run,h,.inl ⟨rfl,(aO.cT rfl).2 ⟨rfl,?_⟩⟩⟩;simp only[cz,iv];rw[ax];by_cases LJ:cap=a
     .have Un:b=a:=by omega
      subst Un;have y0:(xs.take b).drop b=[]:=by simp
      rw[if_pos LJ];rw[y0]at B8⊢;rw[bm]at B8;subst B8;exact .inr ⟨kc,o,cap-b,[],sz,by simp,ag,Nat.zero_le _,by omega,by simp,λj c cH=>by simp at cH,by rw[bm]⟩
     .rw[if_neg LJ];exact .inr ⟨kc,_,cap-a,d2,sz,by rw[hlen],ag,by rw[hlen];omega,by omega,mem,kI,B8⟩
   .cases he
  .cases he
 .rename_i e y q ay;split at he
  .rename_i sz xs aj;split at he
   .rename_i b cf ad;split at he
    .rename_i B9;split at he
     .rename_i yR s2 bj;simp only[Option.some.injEq,Prod.mk.injEq]at he;obtain⟨rfl,rfl⟩:=he;obtain⟨i,d,z,aX,a6,aQ,cC,cF,cc,b4⟩:=bx.info (gG ay (by simp));rw[ay]at b4;have:=mh b4;subst this;obtain⟨ru,bE,rv,f1,f2,f3,f4,f5,f6,f7⟩:=bx.info B9.2;have tY:yR= .ao sz xs:=by
       simp only[db,aj,I.plain]at bj;simp at bj;exact bj.1.symm
      subst tY;obtain⟨ck,g0,g1,g2,Sn,g3,g4,g5,g6,g7,g8⟩:=pI h rfl aT bj;rw[hH g2,ax]at g3;rcases g3 with⟨rfl,a0,mo⟩|⟨kc,cap,cur,gx,fr,aW,mo,b7,cw,fi,ep,fQ,dM,jz,gy,nc,oi⟩
      .simp at mo;subst mo;have ix:b=0:=by simpa using B9.1
       subst ix;have oU:=wt (P:=C.P) (isS:=true) (len:=0) (cap:=0) oS oT cf ad (Nat.le_refl _) (Nat.le_refl _) (Nat.le_refl _);refine⟨.slice a0 0 0,w,F,ck,?_,g0,.inr ⟨rfl,rfl,λ_=>False,by simp only[cz,iv];rw[ax];exact .inl ⟨rfl,_,rfl⟩,λ_ h=>h.elim,λ_ h=>h.elim,λ_ _ h=>h.elim,λ_ h=>h.elim⟩⟩;rw[wu bx (wv ay (by simp) (by simp))];cases a0<;>simp[Instr.slice,run_underlying cc,oU,kJ f1,f2]
      .simp at mo;subst mo;have oU:=wt (P:=C.P) (isS:=true) (len:=xs.length) (cap:=cap) oS oT cf ad (Nat.zero_le _) (Nat.le_trans B9.1 ep) ep;have hlen:(xs.take b).length=b:=by simp;omega
       have run:(Instr.sliceAt T (.slice (some ⟨kc,0,none⟩) xs.length cap) tZ t_ none).run C.P w= .ok (.slice (some ⟨kc,0,none⟩) b cap) w:=by
        rw[wu bx (wv ay (by simp) (by simp))];simp[Instr.slice,run_underlying cc,oU,kJ f1,f2,Addr.add_lit]
       refine⟨_,w,F,ck,run,g0,.inr ⟨rfl,rfl,Sn,?_,g4,g5,g6,g7⟩⟩;simp only[cz,iv];rw[ax];obtain⟨cv,c2,ir,hF,aq,m1,m2,m3,m4,m5⟩:=bm.split b xs _ _ gy;refine .inr ⟨kc,cap,cur,gx,fr,aW,by rw[hlen],b7,cw,fi,by omega,fQ,dM,λd aj=>jz d (List.mem_of_mem_take aj),?_,nc,oi⟩;have He:cv.length=b*sz:=by
        rw[bm.length _ _ _ m1,tO _ (λd aj=>jz d (List.mem_of_mem_take aj)),hlen]
       have:cur.toList.take ((xs.take b).length*sz)=cv:=by
        rw[hlen];have ah:b*sz<=xs.length*sz:=Nat.mul_le_mul_right _ B9.1;have:(cur.toList.take (xs.length*sz)).take (b*sz)=cv:=by rw[aq,List.take_left' He]
        rwa [List.take_take,Nat.min_eq_left ah]at this
       rw[this];exact bm.mono (λ_ h=>h) _ _ _ _ m3 m1
     .cases he
    .cases he
   .cases he
  .cases he
 .cases he
end
section
variable {C:cl} {w0 w:World} {F0 X F:Nat->Prop} {S:Nat->Nat->Prop} {s s1:ar} {aC:Nat->Value} {av:I}
def Src (P:Program) (w:World) (size:Nat) (x:Value) (m:Nat) (news:List Value):Prop:=
 ∀aL:World,aL.heap=w.heap->(Builtin.lenOf x).run P aL= .ok m aL/\(Builtin.firstCells size m x).run P aL= .ok news.toArray aL
def Hf (d:TypeDesc):Prop:=(∃e,d= .slice e)\/d= .string
theorem Uo {P:Program} {T bZ ty e:TypeId} {rC:TypeDesc} {i:TypeInfo} (bj:P.underlying T=some (.slice e)) (hu:P.underlying bZ=some rC) (ua:Hf rC) (an:P.info? e=some i)
  {x:Value} {m:Nat} {news:List Value} (B_:Src P w i.size x m news) {b n cap:Nat} {cur:Array Value} {gx:TypeId} {fr:Nat×Nat} {l mid r:List Value} (ad:w.heap[b]? =some (.cells cur gx fr)) (bw:nD fr cur.size)
  (aq:cur.toList=l++(mid++r)) (hl:l.length=n*i.size) (hm:mid.length=news.length) (B4:∀v∈news,Value.ha v=true) (qD:n+m<=cap):
  ∃aL,(Builtin.append_ #[T,bZ] ty #[.slice (some ⟨b,0,none⟩) n cap,x]).run P w= .ok (.slice (some ⟨b,0,none⟩) (n+m) cap) aL/\aL.heap[b]? =some (.cells (l++(news++r)).toArray gx fr)/\
   (∀c,c≠b->aL.heap[c]? =w.heap[c]?)/\aL.heap.size=w.heap.size/\aL.os=w.os/\aL.tape=w.tape/\Out aL w:=by
 obtain⟨aL,m1,m2⟩:=B3 (P:=P) (b:=b) (o:=n*i.size) (e:=gx) (fr:=fr) news 0 cur w l mid r ad bw aq (by omega) hm B4;refine⟨aL,?_,m2⟩;obtain⟨ag,ah⟩:=B_ w rfl;rcases ua with⟨gP,rfl⟩|rfl<;>simp[Builtin.append_,run_underlying bj,run_underlying hu,kJ an,ag,ah,qD,Addr.add_lit,m1]
theorem Up {P:Program} {T bZ ty e:TypeId} {rC:TypeDesc} {i:TypeInfo} {z:Value} (bj:P.underlying T=some (.slice e)) (hu:P.underlying bZ=some rC) (ua:Hf rC) (an:P.info? e=some i) (cg:i.zero=some z)
  {x:Value} {m:Nat} {news:List Value} (B_:Src P w i.size x m news) {base:Option Addr} {n cap:Nat} {pO:List Value} (hold:Src P w i.size (.slice base n cap) n pO) (qD:¬n+m<=cap)
  (a7:n+m<=9223372036854775807) (Hg:(n+m)*i.bytes<=140737488355328):
  (Builtin.append_ #[T,bZ] ty #[.slice base n cap,x]).run P w= .ok (.slice (some ⟨w.heap.size,0,none⟩) (n+m) (grownCap w (n+m) cap e))
   (w.drew.alloc (.cells (pO.toArray++news.toArray++Builtin.zeroCells z.cells (grownCap w (n+m) cap e-(n+m))) e)):=by
 have ag:=(B_ w rfl).1;have ah:=(B_ w.drew rfl).2;have aN:=(hold w.drew rfl).2;have aG3:=growslice_fits (need:=n+m) (old:=cap) (by omega) Hg;have iP:¬(281474976710656<Builtin.nextslicecap (n+m) cap*i.bytes):=by omega
 have wy:∀k (w:World),(askRoom k).run P w= .ok () w:=by
  intro k w;unfold askRoom;split<;>rfl
 have Hh:¬(9223372036854775807<(n:Int)+(m:Int)/\i.bytes=0):=by omega
 rcases ua with⟨gP,rfl⟩|rfl<;>
  .simp[Builtin.append_,run_underlying bj,run_underlying hu,kJ an,tT an,ag,qD,iP,Question.forced,wy];rw[if_neg Hh,aN];simp[ah,sA an cg,newRow,grownCap];have aX:(pO++news).toArray=pO.toArray++news.toArray:=by simp
   rw[aX,Array.append_assoc]
def Ca (C:cl) (e bZ:TypeId):Bool:=match(C.T bZ).k,(C.T e).k with
 | .slice gP,_=>gP==e
 | .str,.int .u8=>true
 |_,_=>false
def nd (C:cl) (s:ar) (T bZ:TypeId) (x y:I):Option (I×ar):=
 match(C.T T).k with
 | .slice e=>if(C.T e).ok=true/\(C.T e).zero.wd=(C.T e).sz/\(flat (C.T e).zero).isSome=true/\Ca C e bZ=true then
   match(match x with| .bz=>some (I.ao (C.T e).sz [],s)| .h a q=>db s (.h a q)|_=>none)with
   |some (.ao sz xs,s1)=>if sz=(C.T e).sz then
     match(match lV x.owner y with
      | .bz=>some ([],s1)
      | .slice cK=>some (cK,s1)
      | .str l=>some (l.map lF,s1)
      | .h a q=>match db s1 (.h a q)with
        |some (.ao _ cK,s2)=>some (cK,s2)
        |_=>none
      |_=>none)with
     |some (cK,s2)=>if(∀d∈cK,d.wd=(C.T e).sz)/\(xs.length+cK.length)*(C.T e).bytes<=140737488355328/\xs.length+cK.length<=9223372036854775807 then some (.ao sz (xs++cK),s2)else none
     |none=>none
    else none
   |_=>none
   else none
 |_=>none
theorem bm.append {xs cK:List I} {cv c2:List Value} {ck eo aW:Nat->Prop} (ag:bm w F xs cv ck) (ah:bm w F cK c2 eo) (aX:∀b,ck b->aW b) (a6:∀b,eo b->aW b) (aQ:∀b,ck b->¬eo b):bm w F (xs++cK) (cv++c2) aW:=by
 induction xs generalizing cv ck aW with
 |nil=>rw[bm]at ag;subst ag;exact bm.mono (λ_ h=>h) _ _ _ _ a6 ah
 |cons x xs ih=>
  rw[bm]at ag;obtain⟨Uq,Ur,ir,hF,rfl,g1,g2,g3,g4,g5⟩:=ag;rw[List.cons_append,bm];refine⟨Uq,Ur++c2,ir,λb=>hF b\/eo b,by simp,g1,ih g2 (λb h=>.inl h) (λb h=>.inr h) (λb h=>aQ b (g4 b h)),λb h=>aX b (g3 b h),?_,?_⟩
  .rintro b (h|h)
   .exact aX b (g4 b h)
   .exact a6 b h
  .rintro b h (bt|bt)
   .exact g5 b h bt
   .exact aQ b (g3 b h) bt
theorem Hi {P:Program} {size m cap:Nat} {b o:Nat} {news:List Value} (kI:iA w b o news) (hl:news.length=m*size):Src P w size (.slice (some ⟨b,o,none⟩) m cap) m news:=by
 intro aL hw;refine⟨rfl,?_⟩;refine run_firstCells_some aL size m ⟨b,o,none⟩ m cap news hl (λj v cH=>?_);rw[Addr.add_lit];have:=kI j v cH;simpa [World.cell?,hw]using this
theorem LK {P:Program} {size cap:Nat}:Src P w size (.slice none 0 cap) 0 []:=by
 intro aL _;exact⟨rfl,by simp[Builtin.firstCells]⟩
theorem Hj {P:Program} {size cap:Nat} (a:Option Addr):Src P w size (.slice a 0 cap) 0 []:=by
 cases a with
 |none=>exact LK
 |some a=>
  intro aL _;exact⟨rfl,run_firstCells_some aL size 0 a 0 cap [] (by simp) (λj v cH=>by simp at cH)⟩
theorem Us {P:Program} (l:List UInt8):Src P w 1 (.string ⟨⟨l⟩⟩) l.length (l.map λb=>.int .u8 (b.toNat:Int)):=by
 intro aL _;refine⟨rfl,?_⟩;have:(⟨⟨l⟩⟩:ByteArray).extract 0 l.length=⟨⟨l⟩⟩:=by
  apply ByteArray.ext;simp[ByteArray.data_extract]
 simp[Builtin.firstCells,this]
theorem bm.ub {sz:Nat} {xs:List I} {cs:List Value} {aW:Nat->Prop} (h:bm w F xs cs aW) (hw:∀d∈xs,d.wd=sz):cs.length=xs.length*sz:=by
 rw[bm.length _ _ _ h,tO _ hw]
theorem bU.turn (h:bU w0 F0 X F S s aC w) {aL:World} {b:Nat} (ad:∀c,c≠b->aL.heap[c]? =w.heap[c]?) (ae:aL.heap.size=w.heap.size) (ag:aL.os=w.os) (ah:aL.tape=w.tape) (aN:Out aL w)
  (bL:¬F b) (b8:∀u,¬S u b) (ba:X b\/w0.heap.size<=b):bU w0 F0 X F S s aC aL where
 hG:=h.hG
 h4:=h.h4
 fy:=λc aq=>by rw[ae];exact h.fy c aq
 e7:=λt c aq=>by rw[ae];exact h.e7 t c aq
 gf:=h.gf
 fz:=h.fz
 ey:=h.ey
 dF:=λt=>aO.frame (Sx:=S) (λc aq=>ad c (by rintro rfl;exact bL aq)) (λ_ h=>h) (λx c aq=>ad c (by rintro rfl;exact b8 x aq)) h.dF _ _ _ (λc aq=>ad c (by rintro rfl;exact b8 t aq)) (h.dF t)
 old:=λc e6 k9=>by
  rw[ad c ?_]
  .exact h.old c e6 k9
  .rintro rfl;rcases ba with ba|ba
   .exact k9 ba
   .omega
 size:=by rw[ae];exact h.size
 os:=ag.trans h.os
 tape:=ah.trans h.tape
 output:=aN.trans h.output
 hj:=h.hj
theorem Ut (bx:C.fc) (h:bU w0 F0 X F S s aC w) {T bZ ty:TypeId} {x y:I} {iF jx:Value} (aw:aO w F s aC x iF (λ_=>False)) (hy:aO w F s aC y jx (λ_=>False))
  (he:nd C s T bZ x y=some (av,s1)):Good C w0 F0 X aC w (Builtin.append_ #[T,bZ] ty #[iF,jx]) av s1:=by
 unfold nd at he;split at he
 .rename_i e ay;obtain⟨Hk,d,Hl,aX,a6,aQ,cC,cF,cc,b4⟩:=bx.info (gG ay (by simp));rw[ay]at b4;have:=mh b4;subst this;split at he
  .rename_i tW;obtain⟨pN,qE,rD,qF⟩:=tW;obtain⟨i,Hm,z,f1,f2,f3,f4,f5,f6,f7⟩:=bx.info pN;obtain⟨fB,mG⟩:=Option.isSome_iff_exists.1 rD;have rE:=f5 fB mG;have pP:fB.length=(C.T e).sz:=by
    have:=ax.length _ _ _ ((ax.flat (w:=w) (F:=F) _).1 (C.T e).zero fB (λ_=>False) (Nat.le_refl _) mG);rw[this,qE]
   obtain⟨rC,hu,ua⟩:∃rC,C.P.underlying bZ=some rC/\Hf rC:=by
    unfold Ca at qF;split at qF
    .rename_i gP lX;obtain⟨_,bE,_,_,_,_,_,_,g6,g7⟩:=bx.info (gG lX (by simp));rw[lX]at g7;exact⟨bE,g6,.inl ⟨_,mh g7⟩⟩
    .rename_i lX _;obtain⟨_,bE,_,_,_,_,_,_,g6,g7⟩:=bx.info (gG lX (by simp));rw[lX]at g7;exact⟨bE,g6,.inr (qx g7)⟩
    .cases qF
   split at he
   .rename_i sz xs Hn qG;split at he
    .rename_i eM;subst eM;split at he
     .rename_i cK y1 oV;split at he
      .rename_i Uu;obtain⟨wz,Hg,sE⟩:=Uu;simp only[Option.some.injEq,Prod.mk.injEq]at he;obtain⟨rfl,rfl⟩:=he;obtain⟨ir,a0,Sn,a3,a4,a5,qB,qC,aG4,a9,sF⟩:∃ir,bU w0 F0 X F ir Hn aC w/\∃Sn,ax w F (.ao (C.T e).sz xs) [iF] Sn/\(∀b,Sn b->b<w.heap.size)/\(∀b,Sn b->¬F b)/\(∀u b,Sn b->¬ir u b)/\
         (∀b,Sn b->X b\/w0.heap.size<=b)/\(∀u b,ir u b->S u b)/\(∀b,Sn b->∃u,S u b)/\aO w F Hn aC (lV x.owner y) jx (λ_=>False):=by
        split at qG
        .simp only[Option.some.injEq,Prod.mk.injEq,I.ao.injEq,true_and]at qG;obtain⟨rfl,rfl⟩:=qG;have:=rA aw;subst this;exact⟨S,h,λ_=>False,by rw[ax];exact .inl ⟨rfl,_,rfl⟩,λ_ h=>h.elim,λ_ h=>h.elim,λ_ _ h=>h.elim,λ_ h=>h.elim,λ_ _ h=>h,λ_ h=>h.elim,hy⟩
        .obtain⟨ck,g0,g1,g2,Sn,g3,g4,g5,g6,g7,g8,g9,g10⟩:=pI h rfl aw qG;rw[hH g2]at g3;exact⟨ck,g0,Sn,g3,g4,g5,g6,g7,g8,g9,g10 _ _ _ hy⟩
        .cases qG
       obtain⟨hF,kc,oj,news,mn,jy,jA,bD,dQ,cO,pQ,b6⟩:∃hF,bU w0 F0 X F hF y1 aC w/\∃oj news,bm w F cK news oj/\Src C.P w i.size jx cK.length news/\(∀b,oj b->b<w.heap.size)/\(∀b,oj b->¬F b)/\(∀u b,oj b->¬hF u b)/\
         (∀b,oj b->X b\/w0.heap.size<=b)/\(∀u b,hF u b->ir u b)/\(∀b,oj b->∃u,ir u b):=by
        split at oV
        .rename_i uc;simp only[Option.some.injEq,Prod.mk.injEq]at oV;obtain⟨rfl,rfl⟩:=oV;rw[uc]at sF;have:=rA sF;subst this;exact⟨ir,a0,λ_=>False,[],by rw[bm],LK,λ_ h=>h.elim,λ_ h=>h.elim,λ_ _ h=>h.elim,λ_ h=>h.elim,λ_ _ h=>h,λ_ h=>h.elim⟩
        .rename_i hn uc;simp only[Option.some.injEq,Prod.mk.injEq]at oV;obtain⟨rfl,rfl⟩:=oV;rw[uc]at sF;rcases B7 sF with⟨rfl,wx,aG5,rfl,_,tX⟩|⟨b,o,cap,eT,Uv,rfl,b7,cw,fi,ep,fQ,dM⟩
         .exact⟨ir,a0,λ_=>False,[],by rw[bm],Hj wx,λ_ h=>h.elim,λ_ h=>h.elim,λ_ _ h=>h.elim,λ_ h=>h.elim,λ_ _ h=>h,λ_ h=>h.elim⟩
         .exact⟨ir,a0,λ_=>False,eT,dM,Hi fQ (by rw[f2];exact bm.ub dM wz),λ_ h=>h.elim,λ_ h=>h.elim,λ_ _ h=>h.elim,λ_ h=>h.elim,λ_ _ h=>h,λ_ h=>h.elim⟩
        .rename_i l uc;simp only[Option.some.injEq,Prod.mk.injEq]at oV;obtain⟨rfl,rfl⟩:=oV;rw[uc]at sF;have:=mZ sF;subst this;have Cb:l≠[]->i.size=1:=by
          intro hl;cases l with
          |nil=>exact(hl rfl).elim
          |cons b l=>rw[f2,<-wz (lF b) (by simp)];rfl
         by_cases hl:l=[]
         .subst hl;refine⟨ir,a0,λ_=>False,[],by simp only[List.map_nil];rw[bm],?_,λ_ h=>h.elim,λ_ h=>h.elim,λ_ _ h=>h.elim,λ_ h=>h.elim,λ_ _ h=>h,λ_ h=>h.elim⟩;intro aL _;exact⟨rfl,by simp[Builtin.firstCells,ByteArray.extract];rfl⟩
         .refine⟨ir,a0,λ_=>False,_,LD l _,?_,λ_ h=>h.elim,λ_ h=>h.elim,λ_ _ h=>h.elim,λ_ h=>h.elim,λ_ _ h=>h,λ_ h=>h.elim⟩;rw[Cb hl,List.length_map];exact Us l
        .rename_i a q uc;split at oV
         .rename_i aG6 hn s2 bj;simp only[Option.some.injEq,Prod.mk.injEq]at oV;obtain⟨rfl,rfl⟩:=oV;rw[uc]at sF;obtain⟨eo,g0,g1,g2,oj,g3,g4,g5,g6,g7,g8,g9,g10⟩:=pI a0 rfl sF bj;rw[hH g2,ax]at g3;rcases g3 with⟨rfl,Uw,mo⟩|⟨b,cap,cur,gx,fr,aW,mo,b7,cw,fi,ep,fQ,dM,jz,gy,nc,oi⟩
          .simp at mo;subst mo;exact⟨eo,g0,λ_=>False,[],by rw[bm],(Hj Uw),λ_ h=>h.elim,λ_ h=>h.elim,λ_ _ h=>h.elim,λ_ h=>h.elim,g8,λ_ h=>h.elim⟩
          .simp at mo;subst mo;refine⟨eo,g0,aW,_,gy,Hi (wh cw _) ?_,λc aq=>g4 c (nc c aq),λc aq=>g5 c (nc c aq),λu c aq=>g6 u c (nc c aq),λc aq=>g7 c (nc c aq),g8,λc aq=>g9 c (nc c aq)⟩;rw[f2];exact bm.ub gy wz
         .cases oV
        .cases oV
       have sG:news.length=cK.length*(C.T e).sz:=bm.ub mn wz;have oW:∀c,Sn c->¬oj c:=λc ag ah=>by obtain⟨u,hu⟩:=b6 c ah;exact qB u c ag hu
       have mV:∀u c,Sn c->¬hF u c:=λu c ag ah=>qB u c ag (pQ u c ah);have grow:∀(base:Option Addr) (cap:Nat) (pO:List Value) (Sx:Nat->Prop),iF= .slice base xs.length cap->Src C.P w i.size (.slice base xs.length cap) xs.length pO->bm w F xs pO Sx->(∀d∈xs,d.wd=(C.T e).sz)->(∀c,Sx c->Sn c)->¬xs.length+cK.length<=cap->
         Good C w0 F0 X aC w (Builtin.append_ #[T,bZ] ty #[iF,jx]) (.ao (C.T e).sz (xs++cK)) y1:=by
        intro base cap pO Sx G_ hold LL LM fK qD;subst G_;have aS:=Up (ty:=ty) cc hu ua f1 f4 jy hold qD sE (by rw[f3];exact Hg);have yY:=grownCap_ge w (xs.length+cK.length) cap e;have yZ:=grownCap_le_maxLen w (xs.length+cK.length) cap e (by unfold maxLen;omega);have y2:=bm.ub LL LM;have Ux:bm w F (xs++cK) (pO++news) (λc=>Sx c\/oj c):=bm.append LL mn (λ_ h=>.inl h) (λ_ h=>.inr h) (λc ag ah=>oW c (fK c ag) ah);have Uy:(pO++news).length=(xs++cK).length*(C.T e).sz:=by simp[y2,sG,Nat.add_mul]
        have la:=kc.yV (aL:=w.drew.alloc (.cells (pO.toArray++news.toArray++Builtin.zeroCells z.cells (grownCap w (xs.length+cK.length) cap e-(xs.length+cK.length))) e))
         (sz:=(C.T e).sz) (cap:=grownCap w (xs.length+cK.length) cap e) (xs:=xs++cK) (e:=e) (fr:=(0,0)) (Sn:=λc=>Sx c\/oj c) rfl rfl rfl ⟨rfl,λ_=>Nat.le_succ _⟩
         (λo _ ⟨_,ah⟩=>absurd ah (Nat.not_lt_zero _)) (by simpa using yY) yZ
         (by
          simp only[Array.size_append,List.size_toArray,size_zeroCells,rE,y2,sG,pP,<-Nat.add_mul];congr 1;omega)
         (by
          intro d aj;rcases List.mem_append.1 aj with aj|aj
          .exact LM d aj
          .exact wz d aj)
         (by
          simp only[Array.toList_append];rw[List.take_left' Uy];exact Ux)
         (by rintro c (aq|aq);exact a4 c (fK c aq);exact jA c aq) (by rintro c (aq|aq);exact a5 c (fK c aq);exact bD c aq) (by rintro u c (aq|aq);exact mV u c (fK c aq);exact dQ u c aq) (by rintro c (aq|aq);exact qC c (fK c aq);exact cO c aq)
        refine⟨_,_,F,hF,aS,la.1,?_⟩;have:=la.2;simpa using this
       rw[ax]at a3;rcases a3 with⟨rfl,Cc,mo⟩|⟨b,cap,cur,gx,fr,aW,mo,b7,cw,fi,ep,fQ,dM,jz,gy,nc,oi⟩
       .simp at mo;subst mo;by_cases LN:cK=[]
        .subst LN;have Ho:news=[]:=by simpa using sG
         subst Ho;refine⟨.slice Cc 0 0,w,F,hF,?_,kc,.inr ⟨rfl,rfl,λ_=>False,by simp only[cz,iv];rw[ax];exact .inl ⟨rfl,_,rfl⟩,λ_ h=>h.elim,λ_ h=>h.elim,λ_ _ h=>h.elim,λ_ h=>h.elim⟩⟩;obtain⟨ag,ah⟩:=jy w rfl;cases Cc<;>rcases ua with⟨gP,rfl⟩|rfl<;>simp at ag ah<;>simp[Builtin.append_,run_underlying cc,run_underlying hu,kJ f1,ag,ah,storeCells]
        .exact grow Cc 0 [] (λ_=>False) rfl (Hj Cc) (by rw[bm]) (by simp) (λ_ h=>h.elim) (by
          cases cK with
          |nil=>exact(LN rfl).elim
          |cons y cK=>simp)
       .simp at mo;subst mo;by_cases qD:xs.length+cK.length<=cap
        ·
         have y2:=bm.ub gy jz;have hlen:cur.toList.length=cap*(C.T e).sz:=by simp[dM]
         have hle:(xs.length+cK.length)*(C.T e).sz<=cap*(C.T e).sz:=Nat.mul_le_mul_right _ qD;rw[Nat.add_mul]at hle;have mc:cur.toList=cur.toList.take (xs.length*(C.T e).sz)++((cur.toList.drop (xs.length*(C.T e).sz)).take news.length++(cur.toList.drop (xs.length*(C.T e).sz)).drop news.length):=by
          rw[List.take_append_drop,List.take_append_drop]
         obtain⟨aL,m1,m2,m3,m4,m5,m6,m7⟩:=Uo (ty:=ty) (n:=xs.length) (m:=cK.length) (cap:=cap) cc hu ua f1 jy cw fi.low mc (by rw[f2];exact y2) (by simp[hlen,sG];omega) (bm.tU _ _ _ mn) qD;have Uz:=kc.turn m3 m4 m5 m6 m7 (a5 b b7) (λu hu=>mV u b b7 hu) (qC b b7);have qw:∀c,F c->aL.heap[c]? =w.heap[c]? :=λc aq=>m3 c (by rintro rfl;exact a5 _ b7 aq);refine⟨_,aL,F,hF,m1,Uz,.inr ⟨rfl,rfl,λc=>Sn c\/oj c,?_,?_,?_,?_,?_⟩⟩
         .simp only[cz,iv];rw[ax];have LO:(cur.toList.take (xs.length*(C.T e).sz)++(news++(cur.toList.drop (xs.length*(C.T e).sz)).drop news.length)).toArray.size=cur.size:=by
           have:cur.size=cur.toList.length:=by simp
           rw[this];conv=>rhs;rw[mc]
           simp[hlen,sG];omega
          refine .inr ⟨b,cap,_,gx,fr,λc=>aW c\/oj c,by simp,.inl b7,m2,by rw[LO];exact fi,by simpa using qD,fQ,by rw[LO];exact dM,?_,?_,?_,?_⟩
          .intro d aj;rcases List.mem_append.1 aj with aj|aj
           .exact jz d aj
           .exact wz d aj
          .have wq:=bm.frame qw _ _ _ (λc aq=>m3 c (by rintro rfl;exact oi aq)) gy;have tS:=bm.frame qw _ _ _ (λc aq=>m3 c (by rintro rfl;exact oW _ b7 aq)) mn;have:((cur.toList.take (xs.length*(C.T e).sz)++(news++(cur.toList.drop (xs.length*(C.T e).sz)).drop news.length)).toArray.toList.take ((xs++cK).length*(C.T e).sz))=cur.toList.take (xs.length*(C.T e).sz)++news:=by
            simp only[];rw[<-List.append_assoc];exact List.take_left' (by rw[List.length_append,y2,sG,List.length_append,Nat.add_mul])
           rw[this];exact bm.append wq tS (λ_ h=>.inl h) (λ_ h=>.inr h) (λc ag ah=>oW c (nc c ag) ah)
          .rintro c (aq|aq)
           .exact .inl (nc c aq)
           .exact .inr aq
          .rintro(aq|aq)
           .exact oi aq
           .exact oW b b7 aq
         .rw[m4];rintro c (aq|aq);exact a4 c aq;exact jA c aq
         .rintro c (aq|aq);exact a5 c aq;exact bD c aq
         .rintro u c (aq|aq);exact mV u c aq;exact dQ u c aq
         .rintro c (aq|aq);exact qC c aq;exact cO c aq
        .exact grow (some ⟨b,0,none⟩) cap _ aW rfl (Hi (wh cw _) (by rw[f2];exact bm.ub gy jz)) gy jz nc qD
      .cases he
     .cases he
    .cases he
   .cases he
  .cases he
 .cases he
end
section
variable {C:cl} {w0 w aL:World} {F0 X F:Nat->Prop} {S:Nat->Nat->Prop} {s s1:ar} {aC:Nat->Value} {av:I}
theorem bU.UA (h:bU w0 F0 X F S s aC w) {x:Nat} {q:List Nat} {d bE:I} {b:Nat} (aj:I.sub q (s x)=some d) (au:d.plain=false) (Hp:bE.tree=true) (ag:∀v,i7 d v->i7 bE v) (ae:∀v,eA d v->eA bE v)
  (ah:∀vs,bE≠.tuple vs) (lC:bE.wd=d.wd) (ad:∀c6 a fP,dP w q (s x) (cz (aC x)) none=some (d,c6,a)->ax w F d c6 fP->fP b/\ax aL F bE c6 fP) (oP:∀c,c≠b->aL.heap[c]? =w.heap[c]?) (eM:aL.heap.size=w.heap.size) (GZ:aL.os=w.os)
  (G0:aL.tape=w.tape) (tQ:Out aL w):∃aW,bU w0 F0 X F aW (dD (iO x s) x (I.put q bE (s x))) aC aL:=by
 have bj:=iE aj (.inl au);have aw:=h.dF x;rw[aO.cT bj]at aw;obtain⟨c6,a,eP,fP,g0,g1,g2,g3,g4,g5⟩:=ctx q (s x) (cz (aC x)) (S x) none d aw.2 aj;obtain⟨tR,aT⟩:=ad c6 a fP g0 g4;have ud:S x b:=g2 b tR;have qw:∀c,F c->aL.heap[c]? =w.heap[c]? :=λc aq=>oP c (by rintro rfl;exact h.gf x _ ud aq);have wm:∀c,eP c->c≠b:=λc aq e=>g3 c aq (e▸tR);have k6:ax aL F (I.put q bE (s x)) (cz (aC x)) (λc=>eP c\/fP c):=by
  rcases g5 with⟨l,r,aX,a6,aQ⟩|⟨kc,cur,e,fr,l,r,aX,a6,aQ,cC,cF,cc⟩
  .rw[aX];exact aQ aL bE c6 fP qw (λc aq=>oP c (wm c aq)) lC aT (λc aq oO=>g3 c oO aq)
  .refine cc aL bE c6 fP qw (λc aq _=>oP c (wm c aq)) ?_ lC aT (λc aq oO=>g3 c oO aq);rw[oP kc (wm kc a6),aQ,<-cF]
 have yF:eA (I.put q bE (s x)) (aC x)/\(I.put q bE (s x)).tree=true:=by
  cases q with
  |nil=>
   simp only[I.sub,Option.some.injEq]at aj;simp only[I.put];exact⟨ae _ (aj▸aw.1),Hp⟩
  |cons k q=>
   refine⟨yD aw.1 aj ag (λ_=>ah) lC,?_⟩;rcases sy k q bE (s x)with⟨az,gs,aX,e⟩|⟨az,gs,aX,e⟩|⟨sz,xs,cK,aX,e⟩|⟨y,z,aX,e⟩|e<;>rw[e]<;>first|rfl|exact bj
 let aB:=dD (iO x s) x (I.put q bE (s x))
 have h3:∀y,y≠x->(aB y).tree=true->aB y=s y/\aC y=aC y:=λy hy bj=>by
  have e:aB y=c_.ct x (s y):=j1 _ _ hy;rw[e]at bj⊢;exact⟨(BV bj).2,rfl⟩
 have mY:(aB x).plain=false->(s x).plain=false/\∀v,eA (s x) v->eA (aB x) v:=by
  intro _;refine⟨?_,λv aT=>?_⟩
  .cases yE:(s x).plain with
   |false=>rfl
   |true=>rw[I.GM _ _ _ yE aj]at au;cases au
  .simp only[aB,mE];cases q with
   |nil=>
    simp only[I.sub,Option.some.injEq]at aj;simp only[I.put];exact ae _ (aj▸aT)
   |cons k q=>exact yD aT aj ag (λ_=>ah) lC
 have both:∀c,(eP c\/fP c)->S x c:=λc aq=>aq.elim (g1 c) (g2 c);refine⟨gq S x (λc=>eP c\/fP c),?_⟩;constructor;case hG=>exact h.hG
 case h4=>exact h.h4
 case fy=>exact λb ad=>by rw[eM];exact h.fy b ad
 case e7=>
  intro u c ad;rw[eM];simp only[gq]at ad;split at ad
  .exact h.e7 x c (both c ad)
  .exact h.e7 u c ad
 case gf=>
  intro u c ad;simp only[gq]at ad;split at ad
  .exact h.gf x c (both c ad)
  .exact h.gf u c ad
 case fz=>
  intro u y c dL ad hy;simp only[gq]at ad hy;split at ad
  .rename_i hu;rw[if_neg (λe=>dL (hu.trans e.symm))]at hy;exact h.fz x y c (λe=>dL (hu.trans e)) (both c ad) hy
  .rename_i hu;split at hy
   .exact h.fz u x c hu ad (both c hy)
   .exact h.fz u y c dL ad hy
 case ey=>
  intro u c ad;simp only[gq]at ad;split at ad
  .exact h.ey x c (both c ad)
  .exact h.ey u c ad
 case dF=>
  intro u;by_cases hu:u=x
  .subst hu;rw[mE,yB];exact(aO.cT yF.2).2 ⟨yF.1,k6⟩
  .rw[j1 _ _ hu,yC _ _ hu];have dL:∀y c,y≠x->S y c->aL.heap[c]? =w.heap[c]? :=λy c hy aq=>oP c (by rintro rfl;exact h.fz y x c hy aq ud);refine(aO.ct h3 rfl mY (λy gw d2 hy iw yG=>?_) qw _).1 _ _ _ (Nat.le_refl _) (λc aq=>dL u c hu aq) (h.dF u);have yH:=h.dF y;rw[aO.cT (iE iw yG)]at yH;exact BU gw _ _ _ none d2 yH.2 iw (λc aq=>dL y c hy aq)
 case old=>
  intro c e6 k9;rw[oP c ?_]
  .exact h.old c e6 k9
  .rintro rfl;rcases h.ey x c ud with ba|ba
   .exact k9 ba
   .omega
 case size=>rw[eM];exact h.size
 case os=>exact GZ.trans h.os
 case tape=>exact G0.trans h.tape
 case output=>exact tQ.trans h.output
 case hj=>exact h.hj
def LP (P:Program) (t:TypeId):Bool:=match P.info? t with
 |some i=>match i.zero with
  |some (.bool false)=>true
  |_=>false
 |none=>false
def Cd (C:cl) (T:TypeId):Bool:=match(C.T T).k with
 | .map pR sH=>match(C.T pR).k with
   | .str=>LP C.P sH
   |_=>false
 |_=>false
def oX (C:cl) (s:ar) (T:TypeId) (x i:I):Option I:=match x,i with
 | .h y q,.str k=>match I.sub q (s y)with
   |some (.eD (.mp m))=>if Cd C T=true then some (.bool (su k m))else none
   |_=>none
 |_,_=>none
def nK (C:cl) (s:ar) (T:TypeId) (x i v:I):Option ar:=match x,i,v with
 | .h y q,.str k,.bool b=>match I.sub q (s y)with
   |some (.eD (.mp m))=>if Cd C T=true then some (dD (iO y s) y (I.put q (.eD (.mp (qv k b m))) (s y)))else none
   |_=>none
 |_,_,_=>none
theorem LQ (bx:C.fc) {T:TypeId} (h:Cd C T=true):∃pR sH,C.P.underlying T=some (.map pR sH)/\C.P.underlying pR=some .string/\∀w,(zeroValue sH).run C.P w= .ok (.bool false) w:=by
 unfold Cd at h;split at h
 .rename_i pR sH ay;split at h
  .rename_i ag;obtain⟨i,d,z,aX,a6,aQ,cC,cF,cc,b4⟩:=bx.info (gG ay (by simp));obtain⟨ru,bE,rv,f1,f2,f3,f4,f5,f6,f7⟩:=bx.info (gG ag (by simp));rw[ay]at b4;rw[ag]at f7;have:=qx f7;subst this;refine⟨pR,sH,?_,f6,λw=>?_⟩
   .rw[cc];cases d<;>simp[mf]at b4;rw[b4.1,b4.2]
   .unfold LP at h;split at h
    .rename_i i2 g1;split at h
     .rename_i g2;exact sA g1 g2 w
     .cases h
    .cases h
  .cases h
 .cases h
theorem Hq (a b:ByteArray):(a==b)=true↔a=b:=by
 constructor
 .intro h;exact ByteArray.ext (eq_of_beq (show(a.data==b.data)=true from h))
 .rintro rfl;show(a.data==a.data)=true;simp
theorem Hr (k:List UInt8) (b:Bool):∀(es:List MapEntry) (m:List (List UInt8×Bool)) (i:Nat),es.map (λe=>(e.key,e.val))=m.map (λe=>(.string ⟨⟨e.1⟩⟩,.bool e.2))->
  (Instr.findNow .string (.string ⟨⟨k⟩⟩) es i=some none/\su k m=false/\qv k b m=m++[(k,b)])\/
  ∃j e,es[j]? =some e/\e.key= .string ⟨⟨k⟩⟩/\Instr.findNow .string (.string ⟨⟨k⟩⟩) es i=some (some (i+j,.bool (su k m)))/\qv k b m=m.set j (k,b)
 |[],m,i,h=>by
  have:m=[]:=by simpa using h.symm
  subst this;exact .inl ⟨rfl,rfl,rfl⟩
 |e::es,[],i,h=>by simp at h
 |e::es,(di,gp)::m,i,h=>by
  simp only[List.map_cons,List.cons.injEq,Prod.mk.injEq]at h;obtain⟨⟨ag,ah⟩,aN⟩:=h;by_cases ay:di=k
  .subst ay;refine .inr ⟨0,e,rfl,ag,?_,by simp[qv]⟩;have:(((⟨⟨di⟩⟩:ByteArray)==⟨⟨di⟩⟩))=true:=(Hq _ _).2 rfl;simp only[Instr.findNow,ag,ah,Instr.sameNow,su,this,if_true,Nat.add_zero]
  .have a7:((⟨⟨k⟩⟩:ByteArray)==⟨⟨di⟩⟩)=false:=by
    refine Bool.eq_false_iff.2 λe=>ay ?_;have:=(Hq _ _).1 e;simp only[ByteArray.mk.injEq,Array.mk.injEq]at this;exact this.symm
   rcases Hr k b es m (i+1) aN with⟨g1,g2,g3⟩|⟨j,gP,g1,g2,g3,g4⟩
   .refine .inl ⟨?_,?_,?_⟩
    .simp only[Instr.findNow,ag,Instr.sameNow,a7];exact g1
    .simp[su,ay,g2]
    .simp[qv,ay,g3]
   .refine .inr ⟨j+1,gP,g1,g2,?_,?_⟩
    .simp only[Instr.findNow,ag,Instr.sameNow,a7];rw[g3];simp[su,ay,Nat.add_assoc,Nat.add_comm 1 j]
    .simp[qv,ay,g4]
theorem Ce {P:Program} {pR:TypeId} (ay:P.underlying pR=some .string) (e:Bool) (k:ByteArray) (w:World):(Instr.checkKey e 10000 pR (.string k)).run P w= .ok () w:=by
 unfold Instr.checkKey;simp[run_underlying ay]
theorem LR (h:bU w0 F0 X F S s aC w) {y:Nat} {q:List Nat} {m:List (List UInt8×Bool)} {v:Value} (aT:aO w F s aC (.h y q) v (λ_=>False)) (aj:I.sub q (s y)=some (.eD (.mp m))):
  ∃r ms nE,v= .map (some r)/\w.heap[r]? =some (.map ms nE)/\ms.toList.map (λe=>(e.key,e.val))=m.map (λe=>(.string ⟨⟨e.1⟩⟩,.bool e.2))/\
   ∃a,dP w q (s y) (cz (aC y)) none=some (.eD (.mp m),[.map (some r)],a):=by
 rw[aO]at aT;obtain⟨c6,a,g1,g2,g3⟩:=aT _ aj rfl;have ag:Value.ha v=true:=g3;rw[hH ag]at g2;have aw:=h.dF y;rw[aO.cT (iE aj (.inl rfl))]at aw;obtain⟨gD,c7,eP,fP,k0,b7,cw,fi,ep,fQ⟩:=ctx q (s y) (cz (aC y)) (S y) none _ aw.2 aj;rw[k0]at g1;simp only[Option.some.injEq,Prod.mk.injEq,true_and]at g1;obtain⟨rfl,rfl⟩:=g1;rw[ax]at ep;obtain⟨r,ms,nE,aX,a6,aQ,cC⟩:=ep;rw[aX]at g2 k0;exact⟨r,ms,nE,by simpa using g2,aQ,cC,c7,k0⟩
theorem UB (bx:C.fc) (h:bU w0 F0 X F S s aC w) {T:TypeId} {x i:I} {iF oQ:Value} (aw:aO w F s aC x iF (λ_=>False)) (an:aO w F s aC i oQ (λ_=>False)) (he:oX C s T x i=some av):
  Good C w0 F0 X aC w (Instr.lookup T iF oQ false) av s:=by
 unfold oX at he;split at he
 .rename_i y q k;split at he
  .rename_i m aj;split at he
   .rename_i k8;simp only[Option.some.injEq]at he;subst he;obtain⟨pR,sH,t1,t2,t3⟩:=LQ bx k8;obtain⟨r,ms,nE,rfl,a6,aQ,_⟩:=LR h aw aj;have:=mZ an;subst this;refine Good.same h (v:=.bool (su k m)) ?_ rfl (of_bool _);rcases Hr k true ms.toList m 0 aQ with⟨g1,g2,_⟩|⟨j,e,_,_,g1,_⟩
    .simp[Instr.lookup,run_underlying t1,getObj,Sem.run,a6,Ce t2,Instr.findKey,run_underlying t2,g1,t3,g2]
    .simp[Instr.lookup,run_underlying t1,getObj,Sem.run,a6,Ce t2,Instr.findKey,run_underlying t2,g1]
   .cases he
  .cases he
 .cases he
theorem UC (bx:C.fc) (h:bU w0 F0 X F S s aC w) {T:TypeId} {x i v:I} {iF oQ LS:Value} (aw:aO w F s aC x iF (λ_=>False)) (an:aO w F s aC i oQ (λ_=>False)) (aT:aO w F s aC v LS (λ_=>False)) {s2:ar}
  (he:nK C s T x i v=some s2):∃aL aW,(Instr.mapUpdate T iF oQ LS).run C.P w= .ok () aL/\bU w0 F0 X F aW s2 aC aL:=by
 unfold nK at he;split at he
 .rename_i y q k b;split at he
  .rename_i m aj;split at he
   .rename_i k8;simp only[Option.some.injEq]at he;subst he;obtain⟨pR,sH,t1,t2,t3⟩:=LQ bx k8;obtain⟨r,ms,nE,rfl,a6,aQ,a0,lE⟩:=LR h aw aj;have:=mZ an;subst this;have:=sC aT;subst this;have key:∀(Cf:Array MapEntry) (Hs:Nat),Cf.toList.map (λe=>(e.key,e.val))=(qv k b m).map (λe=>(.string ⟨⟨e.1⟩⟩,.bool e.2))->
      ∃aW,bU w0 F0 X F aW (dD (iO y s) y (I.put q (.eD (.mp (qv k b m))) (s y))) aC {w with heap:=w.heap.setIfInBounds r (.map Cf Hs)}:=by
     intro Cf Hs hm;have aS:r<w.heap.size:=(Array.getElem?_eq_some_iff.1 a6).1;refine bU.UA (b:=r) h aj rfl rfl (λv aT=>aT) (λv aT=>aT) (λvs e=>by cases e) rfl ?_ (λc aq=>?_) (by simp) rfl rfl ⟨rfl,λ_=>Nat.le_refl _⟩
     .intro c6 a fP bw hc;rw[lE]at bw;simp only[Option.some.injEq,Prod.mk.injEq,true_and]at bw;obtain⟨rfl,_⟩:=bw;rw[ax]at hc⊢;obtain⟨ik,sI,aG7,f1,f2,f3,f4⟩:=hc;simp only[List.cons.injEq,Value.map.injEq,Option.some.injEq,and_true]at f1;subst f1;exact⟨f2,r,Cf,Hs,rfl,f2,by simp[aS],hm⟩
     .simp[Ne.symm aq]
    rcases Hr k b ms.toList m 0 aQ with⟨g1,_,g2⟩|⟨j,e,g0,ge,g1,g2⟩
    .obtain⟨aW,b7⟩:=key (ms.push {key:=.string ⟨⟨k⟩⟩,val:=.bool b,born:=nE}) (nE+1) (by rw[g2];simp[aQ]);exact⟨_,aW,by simp[Instr.mapUpdate,run_underlying t1,getObj,setObj,Sem.run,a6,Ce t2,Instr.findKey,run_underlying t2,g1],b7⟩
    .rw[Nat.zero_add]at g1;obtain⟨aW,b7⟩:=key (ms.modify j λe=>{e with key:=.string ⟨⟨k⟩⟩,val:=.bool b}) nE (by
      rw[g2,List.map_set,<-aQ];apply List.ext_getElem?;intro n;by_cases a7:n=j
      .subst a7;have:n<ms.toList.length:=(List.getElem?_eq_some_iff.1 g0).1;rw[List.getElem?_set_self (by simpa using this)];simp[g0]
      .simp[List.getElem?_set_ne (Ne.symm a7),Ne.symm a7])
     have UD:ms[j]? =some e:=by simpa using g0
     exact⟨_,aW,by simp[Instr.mapUpdate,run_underlying t1,getObj,setObj,Sem.run,a6,Ce t2,Instr.findKey,run_underlying t2,g1,UD,ge,Instr.keyThatStays,Instr.sameBits,(Hq ⟨⟨k⟩⟩ ⟨⟨k⟩⟩).2 rfl],b7⟩
   .cases he
  .cases he
 .cases he
theorem UE (h:bU w0 F0 X F S s aC w) (t:TypeId):Good C w0 F0 X aC w (Instr.makeMap t none) (.eD (.mp [])) s:=by
 have hold:∀b,b<w.heap.size->(w.alloc (.map #[] 0)).heap[b]? =w.heap[b]? :=by
  intro b ad;show(w.heap.push _)[b]? =_;rw[Array.getElem?_push,if_neg (by omega)]
 refine⟨.map (some w.heap.size),w.alloc (.map #[] 0),F,S,?_,h.grow hold (by simp) rfl rfl ⟨rfl,λ_=>Nat.le_refl _⟩,.inr ⟨rfl,rfl,λb=>b=w.heap.size,?_,?_,?_,?_,?_⟩⟩
 .simp[Instr.makeMap,newObj,Sem.run]
 .rw[ax];refine⟨w.heap.size,#[],0,rfl,rfl,?_,rfl⟩;show(w.heap.push _)[_]? =_;simp
 .rintro b rfl;simp
 .rintro b rfl rz;exact Nat.lt_irrefl _ (h.fy _ rz)
 .rintro u b rfl hu;exact Nat.lt_irrefl _ (h.e7 _ _ hu)
 .rintro b rfl;exact .inr h.size
end
end Go.c_
