/- Part of a proof that a law is true. No condition. -/
import Derived.Test.YtafceioodemeeaaGreatDoorFwE
import Derived.ChangeArms
import Derived.WideShapes
import Derived.Laws.Externs
import Derived.Lib.Bytealg
import Derived.Sort.Grow
import Derived.Lib.SlicesCompact
import Derived.Below
import Derived.Test.YtafceioodemeeaaGreatDoorProg
import Derived.KernelRfl
import Derived.Test.YtafceioodemeeaaGreatDoorP3
import Derived.Shelf.SlGeneric
import Derived.Ground.SlgnProg
import Derived.Shelf.SlLaysN
import Derived.Shelf.SlLaysNS
import Derived.Ground.NamesProg
import Derived.Shelf.Lays
import Derived.Shelf.Strings.BuilderX
import Derived.Shelf.LaysC
import Derived.Shelf.LaysM
import Derived.Shelf.Small.Strs
import Derived.Ground.SlsfProg
import Derived.Shelf.SlLaysF
import Derived.Shelf.Strings.Prefix
import Derived.Shelf.Strconv.ParseIntPublic10
import Derived.Shelf.Strconv.Itoa4
import Derived.WalkKit
import Derived.BigCall
import Derived.Shelf.Strings.OnBuilder
import Derived.Shelf.SlicesG.CompactS
import Derived.Shelf.SlSortCmp.NoneTotal
namespace Go.en
open Go.IntKind Nat Or
section
variable {H:Type} {enc:TypeId×Value->H} {P:Program} {w:World} {base:Nat} {sp:Nat->Bool} {held:Bool}
def kW {τ:Type} (enc:TypeId×Value->H) (P:Program) (w:World) (base:Nat) (sp:Nat->Bool) (held:Bool) (T:TypeId) (e:τ->I) (W:τ->Prop):Prop:=
 ∀(fuel:Nat) (cs:aAi) (x:DataW H×List MemPlace),DataW.trod enc P w base sp held fuel T cs=some x->∃y,W y/\az w (F0 w) (e y) cs (λ_=>False)
theorem ahA {T:TypeId} {k:IntKind} (a6:P.underlying T=some (.int k)):kW enc P w base sp held T (λn=>.int k n) (λn=>(Lit.int k n).wf=true):=by
 intro fuel cs x h;obtain⟨n,rfl,_,hw⟩:=DataW.trod_int a6 h;exact⟨n,hw,by rw[az]⟩
theorem ahB {T:TypeId} (a6:P.underlying T=some (.int .i64)):kW enc P w base sp held T (λn=>.int .i64 n) (λn=> -9223372036854775808<=n/\n<=9223372036854775807):=by
 intro fuel cs x h;obtain⟨n,hw,aR⟩:=ahA a6 fuel cs x h;exact⟨n,wf_i64 hw,aR⟩
theorem ahC {T:TypeId} (a6:P.underlying T=some .string):kW enc P w base sp held T (λs=>.str s) (λs=>s.length<=9223372036854775807):=by
 intro fuel cs x h;obtain⟨s,rfl,_,ae⟩:=DataW.trod_string a6 h;exact⟨s.data.toList,ae,by rw[az]⟩
theorem ahD {α β:Type} {f:α->Option β}:∀{l:List α} {r:List β},l.mapM f=some r->r.length=l.length/\∀(i:Nat) (a:α),l[i]? =some a->f a=r[i]? :=by
 intro l;induction l with
 |nil=>intro r h;simp at h;subst h;exact⟨rfl,λi a h=>by simp at h⟩
 |cons a l ih=>
  intro r h;simp only[List.mapM_cons,Option.bind_eq_bind,Option.bind_eq_some_iff]at h;obtain⟨b,ab,jf,aR,he⟩:=h;have he:b::jf=r:=by simpa using he
  subst he;obtain⟨h1,af⟩:=ih aR;refine⟨by simp[h1],λi x aq=>?_⟩;cases i with
  |zero=>simp at aq;subst aq;simpa using ab
  |succ i=>simpa using af i x (by simpa using aq)
theorem XO {a:Addr} {n:Nat} {cs:aAi} (h:w.cells? base a n=some cs):cs.length=n/\∀j c,cs[j]? =some c->w.cell? (a.add j)=some c:=by
 unfold World.cells? at h;split at h
 .obtain⟨h1,af⟩:=ahD h;refine⟨by simpa using h1,λj c au=>?_⟩;have bE:j<n:=by
   have:=(List.getElem?_eq_some_iff.1 au).1;rw[h1]at this;simpa using this
  rw[af j j (by simp[bE]),au]
 .cases h
theorem ahE {a:Addr} {c:Value} (h:w.cell? a=some c):a.spot=none/\a.block<w.heap.size:=by
 unfold World.cell? at h;split at h
 .rename_i cs e fr ab;split at h
  .cases h
  .rename_i ae;refine⟨by simpa using ae,?_⟩;exact(Array.getElem?_eq_some_iff.1 ab).1
 .cases h
theorem wg {τ:Type} {T e:TypeId} {sz:Nat} {ec:τ->I} {W:τ->Prop} (a6:P.underlying T=some (.slice e)) (eX:P.cellsOf e=sz) (ahF:0<sz) (hw:∀y,(ec y).wd=sz) (h:kW enc P w base sp held e ec W):
  kW enc P w base sp held T (λcq:List τ=>.slice (cq.map ec)) (λcq:List τ=>cq.length<=9223372036854775807/\∀y∈cq,W y):=by
 intro fuel cs x aq;rcases DataW.trod_slice a6 aq with⟨rfl,_⟩|⟨a,len,cap,elems,rest,n,_,rfl,_,_,h1,af,ay,a_,_⟩
 .exact⟨[],⟨by simp,by simp⟩,by simp only[List.map_nil];rw[az];exact .inl ⟨rfl,none,0,rfl,zero_le _,λ_=>rfl⟩⟩
 .by_cases a7:len=0
  .subst a7;exact⟨[],⟨by simp,by simp⟩,by simp only[List.map_nil];rw[az];exact .inl ⟨rfl,some a,cap,rfl,af,λh=>by cases h⟩⟩
  .rw[eX]at a_;have get:∀i,i<len->∃rJ y,w.cells? base (a.add (i*sz)) sz=some rJ/\W y/\az w (F0 w) (ec y) rJ (λ_=>False):=by
    intro i aj;have:=a_ i aj;rw[List.getElem?_eq_getElem (by omega),Option.bind_eq_some_iff]at this;obtain⟨rJ,aK,aT⟩:=this;obtain⟨y,fs,hn⟩:=h _ _ _ aT;exact⟨rJ,y,aK,fs,hn⟩
   obtain⟨ahG,gf,g1,_,g2⟩:=get 0 (by omega);obtain⟨ayi,fO⟩:=XO g1;have OI:∃c,ahG[0]? =some c:=⟨_,List.getElem?_eq_getElem (by omega)⟩
   obtain⟨c0,OI⟩:=OI;have FC:=ahE (fO 0 c0 OI);have bs:(a.add (0*sz)).add 0=a:=by simp[Addr.add]
   rw[bs]at FC;obtain⟨b,o,spot⟩:=a;obtain⟨vW,uB⟩:=FC;simp only at vW uB;subst vW;have all:∀m,m<=len->∃(cq:List τ) (fo:aAi),cq.length=m/\(∀y∈cq,W y)/\fo.length=m*sz/\Rd w b o fo/\br w (F0 w) (cq.map ec) fo (λ_=>False):=by
    intro m;induction m with
    |zero=>intro _;exact⟨[],[],rfl,by simp,by simp,λj c au=>by simp at au,by rw[List.map_nil,br]⟩
    |succ m ih=>
     intro hm;obtain⟨cq,fo,bV,cn,dV,ea,eC⟩:=ih (by omega);obtain⟨rJ,y,aK,aT,aU⟩:=get m (by omega);obtain⟨m1,m2⟩:=XO aK;refine⟨cq++[y],fo++rJ,by simp[bV],?_,by simp[dV,m1,Nat.add_mul],?_,?_⟩
     .intro z b3;rcases List.mem_append.1 b3 with b3|b3
      .exact cn z b3
      .simp at b3;subst b3;exact aT
     .intro j c au;by_cases bE:j<fo.length
      .rw[List.getElem?_append_left bE]at au;exact ea j c au
      .rw[List.getElem?_append_right (by omega)]at au;have:=m2 _ c au;rw[Addr.add_lit,Addr.add_lit]at this;rw[<-this];congr 2;omega
     .rw[List.map_append];refine br.append eC ?_ (λ_ h=>h) (λ_ h=>h) (λ_ h=>h.elim);simp only[List.map_cons,List.map_nil];rw[br];exact⟨rJ,[],λ_=>False,λ_=>False,by simp,aU,by rw[br],λ_ h=>h.elim,λ_ h=>h.elim,λ_ h=>h.elim⟩
   obtain⟨cq,fo,bV,cn,dV,ea,eC⟩:=all len (Nat.le_refl _);refine⟨cq,⟨by rw[bV];exact Nat.le_trans h1 af,cn⟩,?_⟩;rw[az];refine .inr ⟨b,o,cap,fo,sz,by simp[bV],uB,by simp[bV,h1],af,?_,ea,eC⟩;intro d ao;obtain⟨y,_,rfl⟩:=List.mem_map.1 ao;exact hw y
def ends:Nat->List (Nat×Nat)->Option Nat
 |o,[]=>some o
 |o,(qS,sz)::r=>if o=qS then ends (o+sz) r else none
def XP (w:World) (F:Nat->Prop) (cs:aAi):List (I×Nat×Nat)->Prop
 |[]=>True
 |(d,off,sz)::r=>az w F d ((cs.drop off).take sz) (λ_=>False)/\XP w F cs r
theorem zT {F:Nat->Prop} {cs:aAi}:∀(l:List (I×Nat×Nat)) (o:Nat),ends o (l.map (·.2))=some cs.length->XP w F cs l->br w F (l.map (·.1)) (cs.drop o) (λ_=>False):=by
 intro l;induction l with
 |nil=>intro o he _;simp[ends]at he;subst he;simp only[List.map_nil];rw[br];simp
 |cons p l ih=>
  intro o he bI;obtain⟨d,off,sz⟩:=p;simp only[List.map_cons,ends]at he;split at he
  .rename_i e;subst e;obtain⟨f1,f2⟩:=bI;simp only[List.map_cons];rw[br];refine⟨(cs.drop o).take sz,cs.drop (o+sz),λ_=>False,λ_=>False,?_,f1,ih _ he f2,λ_ h=>h.elim,λ_ h=>h.elim,λ_ h=>h.elim⟩;rw[<-List.drop_drop,List.take_append_drop]
  .cases he
theorem mj {n T:Nat} {cs:aAi} {o:Option (DataW H×List MemPlace)} {τ:Type} {e:τ->I} {W:τ->Prop} (aR:kW enc P w base sp held T e W) (h:DataW.trod enc P w base sp held n T cs=o) (bG:o.isSome=true):
  ∃y,W y/\az w (F0 w) (e y) cs (λ_=>False):=by
 obtain⟨x,rfl⟩:=Option.isSome_iff_exists.1 bG;exact aR _ _ _ h
theorem ahH {τ:Type} {T e:TypeId} {ec:τ->I} {W:List τ->Prop} {r:Reach} {lS:Nat} {v:Value} {d:DataW H} {ps:List MemPlace} (a6:P.underlying T=some (.slice e)) (aR:kW enc P w base sp held T (λcq:List τ=>.slice (cq.map ec)) W)
  (uy:Value.okWide P w r lS T v) (ao:DataW.Trod enc P w base sp held T v d ps):∃cq,Arg w (.slice (cq.map ec)) v/\W cq:=by
 obtain⟨a,len,cap,rfl⟩:=WideShapes.okWide_slice a6 uy;obtain⟨fuel,bI⟩:=ao;obtain⟨cq,h1,af⟩:=aR _ _ _ bI;refine⟨cq,⟨rfl,rfl,?_⟩,h1⟩;simpa [Value.cells,cZ,jd]using af
theorem ahI {τ:Type} {T:TypeId} {aG:Array Field} {es:τ->aAk} {W:τ->Prop} {r:Reach} {lS:Nat} {v:Value} {d:DataW H} {ps:List MemPlace} (a6:P.underlying T=some (.struct aG)) (aR:kW enc P w base sp held T (λy=>.agg (es y)) W)
  (uy:Value.okWide P w r lS T v) (ao:DataW.Trod enc P w base sp held T v d ps):∃y,Arg w (.agg (es y)) v/\W y:=by
 obtain⟨cs,rfl,_⟩:=WideShapes.okWide_struct a6 uy;obtain⟨fuel,bI⟩:=ao;obtain⟨y,h1,af⟩:=aR _ _ _ bI;refine⟨y,⟨rfl,⟨cs,rfl⟩,?_⟩,h1⟩;simpa [Value.cells,cZ,jd]using af
end
theorem OJ:(∀{α β:Type} (f:α->β) (l:List α),(l.map f).length=l.length)/\(∀{α:Type} (n:Nat) (a:α),(List.replicate n a).length=n)/\(∀{α:Type} (a:α) (l:List α),(a::l).length=l.length+1)/\(∀{α:Type},([]:List α).length=0)/\(∀{α:Type} (a b:List α),(a++b).length=a.length+b.length):=
 ⟨λ_ _=>List.length_map _,λ_ _=>List.length_replicate,λ_ _=>rfl,rfl,λ_ _=>List.length_append⟩
theorem XQ:(∀{α β:Type} (f:α->β) (l:List α) (i:Nat),(l.map f)[i]? =l[i]?.map f)/\(∀{α:Type} (a:α) (l:List α),(a::l)[0]? =some a)/\(∀{α:Type} (a:α) (l:List α) (i:Nat),(a::l)[i+1]? =l[i]?)/\
  (∀{α:Type} (a b:α) (l:List α),(a::l).set 0 b=b::l)/\(∀{α:Type} (a b:α) (l:List α) (n:Nat),(a::l).set (n+1) b=a::l.set n b)/\(∀{α:Type} (a:α) (l:List α) (n:Nat),(a::l).take (n+1)=a::l.take n)/\(∀{α:Type} (l:List α),l.take 0=[]):=
 ⟨λ_ _ _=>List.getElem?_map,λ_ _=>rfl,λ_ _ _=>rfl,λ_ _ _=>rfl,λ_ _ _ _=>rfl,λ_ _ _=>rfl,λ_=>rfl⟩
theorem XR:(∀{α β:Type} (f:α->β) (a:α),(some a).map f=some (f a))/\(∀{α β:Type} (f:α->β),(none:Option α).map f=none)/\(∀{α:Type} (a:α),(some a).isSome=true):=⟨λ_ _=>rfl,λ_=>rfl,λ_=>rfl⟩
theorem OK:(∀{α β γ:Type} (g:β->γ) (f:α->β) (l:List α),(l.map f).map g=l.map (g∘f))/\(∀{α:Type} (l:List α),l++[]=l):=⟨λ_ _ _=>List.map_map,λl=>List.append_nil l⟩
theorem l0:(∀{α β:Type} (f:α->β) (a:α) (l:List α),(a::l).map f=f a::l.map f)/\(∀{α β:Type} (f:α->β),([]:List α).map f=[])/\(∀{α β:Type} (f:α->β) (a b:List α),(a++b).map f=a.map f++b.map f)/\
  (∀{α β:Type} (f:α->β) (l:List α) (i:Nat) (a:α),(l.set i a).map f=(l.map f).set i (f a))/\(∀{α β:Type} (f:α->β) (l:List α) (i:Nat),(l.take i).map f=(l.map f).take i)/\(∀{α β:Type} (f:α->β) (l:List α) (i:Nat),(l.drop i).map f=(l.map f).drop i):=
 ⟨λ_ _ _=>rfl,λ_=>rfl,λ_ _ _=>List.map_append,λ_ _ _ _=>List.map_set,λ_ _ _=>List.map_take,λ_ _ _=>List.map_drop⟩
def ahJ:=PLift.up (U @wa (U @WZ (U @Oq (U @W3 (U @W4 (U @ahe (U @WY (U @ahg (U @Xn (U @Xo (U @W5 (U @W6 (U @Ov (U @W7 (U @W8 (U @W9 (U @Xp (U @Xq (U @Xr (U @Xs (U @Xt (U @Xu (U @W_ (U @Xa (U @Xb (U @Xc (U @Xd (U @Xe (U @Xf (U @Xg (U @Xh (U @Xi (U @Xl (U @Oz (U @OD (U @OB (U @XK (U @XL (U @XM (U @XN (U @ld.eq_def (U @loc.eq_def (U @hV.eq_def (U @mA.eq_def (U @ex.eq_def (U @vQ.eq_def (U @fits.eq_def (U @I.gE.eq_1 (U @I.gE.eq_2 (U @I.gE.eq_3 (U @I.gE.eq_4 (U @I.gE.eq_5 (U @I.gE.eq_6 (U @Uz (U @UA (U @Bool.not_true (U @Bool.not_false (U @Bool.true_and (U @Bool.and_true (U @Bool.false_and (U @Bool.true_or (U @Bool.false_or (U @Bool.and_self (U @Bool.false_eq_true (U @Bool.true_eq_false (U @Bool.not_not (U @true_and (U @and_true (U @and_self (U @decide_true (U @decide_false (U @not_false_eq_true (U @not_true_eq_false (U @XG (U @Nat.zero_add (U @Nat.add_zero (U @Nat.mul_one (U @Nat.lt_add_one (U @zero_lt_succ (U @ir.eq_def (U @mR.eq_def (U @flat.eq_1 (U @flat.eq_2 (U @flat.eq_3 (U @flat.eq_4 (U @flat.eq_5 (U @flat.eq_6 (U @flat.eq_7 (U @vM.eq_1 (U @vM.eq_2 (U @k3.eq_def (U @OJ (U @XQ (U @XR (@OK)))))))))))))))))))))))))))))))))))))))))))))))))))))))))))))))))))))))))))))))))))))))))))))))
def FD:=PLift.up (U @x_ (U @WZ (U @Ot (U @W3 (U @W4 (U @ahf (U @WY (U @ahh (U @Xn (U @Xo (U @W5 (U @W6 (U @Ov (U @W7 (U @W8 (U @W9 (U @Xp (U @Xq (U @Xr (U @Xs (U @Xt (U @Xu (U @W_ (U @Xa (U @Xb (U @Xc (U @Xd (U @Xe (U @Xf (U @Xg (U @Xh (U @Xi (U @Xl (U @Oz (U @OD (U @OB (U @XK (U @XL (U @XM (U @XN (U @ld.eq_def (U @loc.eq_def (U @hV.eq_def (U @mA.eq_def (U @ex.eq_def (U @vQ.eq_def (U @fits.eq_def (U @I.gE.eq_1 (U @I.gE.eq_2 (U @I.gE.eq_3 (U @I.gE.eq_4 (U @I.gE.eq_5 (U @I.gE.eq_6 (U @Uz (U @UA (U @Bool.not_true (U @Bool.not_false (U @Bool.true_and (U @Bool.and_true (U @Bool.false_and (U @Bool.true_or (U @Bool.false_or (U @Bool.and_self (U @Bool.false_eq_true (U @Bool.true_eq_false (U @Bool.not_not (U @true_and (U @and_true (U @and_self (U @decide_true (U @decide_false (U @not_false_eq_true (U @not_true_eq_false (U @XG (U @Nat.zero_add (U @Nat.add_zero (U @Nat.mul_one (U @Nat.lt_add_one (U @zero_lt_succ (U @ir.eq_def (U @mR.eq_def (U @flat.eq_1 (U @flat.eq_2 (U @flat.eq_3 (U @flat.eq_4 (U @flat.eq_5 (U @flat.eq_6 (U @flat.eq_7 (U @vM.eq_1 (U @vM.eq_2 (U @k3.eq_def (U @OJ (U @XQ (U @XR (@OK)))))))))))))))))))))))))))))))))))))))))))))))))))))))))))))))))))))))))))))))))))))))))))))))
def ahK:=PLift.up (U @Oz (U @OD (U @OB (U @jg.eq_1 (U @Nat.zero_add (U @Bool.not_true (U @Bool.not_false (U @Bool.true_and (U @Bool.and_true (U @Bool.false_and (U @Bool.true_or (U @Bool.false_or (U @Bool.and_self (U @Bool.false_eq_true (U @Bool.true_eq_false (U @Bool.not_not (U @OJ (U @OK (@l0)))))))))))))))))))
end Go.en
namespace Go.en
open List Option Go.IntKind Nat Or
theorem XS {C:cu} {f:FuncId} {fn:Func} (bI:C.P.funcs[f]? =some fn) (mF:(fn.name== "runtime.NumGoroutine")=false) (ab:fn.body.isNone=true) (aV:Extern.findNext fn=none)
  {E:Array Value->Sem Value} (he:Extern.find fn=some E) (a:aAc) (c:UInt8) (n:Int) (Fk:∀w,(E #[.string ⟨⟨a⟩⟩,.int .u8 c.toNat]).run C.P w= .ok (.int .i64 n) w):aW C f [.str a,.int .u8 c.toNat] (.int .i64 n) []:=by
 intro w F X S vs hl aR;have a7:=pz (aR.eg 0);have h1:=qN (aR.eg 1);have ahL:vs=[.string ⟨⟨a⟩⟩,.int .u8 c.toNat]:=by
  match vs,hl with
  |[x,y],_=>
   have gb:x= .string ⟨⟨a⟩⟩:=a7;have aK:y= .int .u8 c.toNat:=h1;rw[gb,aK]
 subst ahL;refine .inr ⟨.int .i64 n,w,?_,F,S,?_⟩
 .rw[run_callFunc_extern bI mF ab aV he,Fk];rfl
 .refine⟨aR.hL,aR.h9,aR.fG,aR.fc,aR.gl,aR.fT,aR.eI,λt=>?_,aR.old,aR.size,aR.os,aR.tape,aR.output,aR.fU⟩;cases t with
  |zero=>exact(aQ.dj rfl).2 ⟨rfl,by simp only[cZ,jd,hW];rw[show gd (.int .i64 n::[]) 0= .int .i64 n from rfl,az];rfl⟩
  |succ t=>
   show aQ w F _ _ (gd [I.int .i64 n] (t+1)) _ _;rw[show gd [I.int .i64 n] (t+1)= .hole from rfl,aQ];trivial
section
variable {C:cu} {l:aAj} {os:List cB} {K:Option (List fJ)->an->Prop} {dst:Option Nat}
def s9 (s:an):List dq->Prop
 |[]=>True
 |p::ps=>p.ok s/\s9 s ps
theorem Jr {s:an}:∀{ps:List dq},s9 s ps->∀p∈ps,p.ok s
 |p::ps,h,q,cF=>by
  rcases mem_cons.1 cF with rfl|cF
  .exact h.1
  .exact Jr h.2 q cF
def uC:List dq->Bool
 |[]=>true
 |p::ps=>p.o.c8&&uC ps
theorem Js:∀{ps:List dq},uC ps=true->∀p∈ps,p.o.c8=true
 |p::ps,h,q,cF=>by
  simp only[uC,Bool.and_eq_true]at h;rcases mem_cons.1 cF with rfl|cF
  .exact h.1
  .exact Js h.2 q cF
theorem XT {f:bA} {args:List bA} {g:FuncId} {caps:aAk} {K:aAf->I->an->Prop} (ps:List dq) (r:I)
  (h1:bx (ar l) f= .fn g caps) (hX:I.e6 caps=true) (af:ps.map (·.a)=lx (ar l) args++caps) (ay:s9 (ar l) ps) (a_:jH ps=true)
  (b1:aW C g (ps.map (·.d)) r (ps.map (·.o))) (dn:r.res=true) (dc:lU ps=false\/(r.c8&&uC ps)=true) (hK:K (uz ps) r (iK (fM (ar l) ps) ps)):qY C (ar l) (.call f args) K:=by
 refine⟨g,caps,ps,r,h1,hX,by rw[af,B2],Jr ay,a_,b1,dn,?_,hK⟩;intro hl;rcases dc with dc|dc
 .rw[dc]at hl;cases hl
 .rw[Bool.and_eq_true]at dc;exact⟨dc.1,Js dc.2⟩
theorem ahM {f:bA} {args:List bA} {g:FuncId} {caps:aAk} {K:aAf->I->an->Prop} {us:aAf} (ps:List dq) (r:I) (aq:oD (ar l) (lu (ar l) us)=true)
  (h1:bx (ar l) f= .fn g caps) (hX:I.e6 caps=true) (af:ps.map (·.a)=lx (ar l) args++caps) (ay:s9 (ar l) ps) (a_:jH ps=true)
  (b1:aW C g (ps.map (·.d)) r (ps.map (·.o))) (dn:r.res=true) (dc:lU ps=false\/(r.c8&&uC ps)=true)
  (hK:oD (iK (fM (ar l) ps) ps) (lu (ar l) us)=true/\K (us++uz ps) r (qa (iK (fM (ar l) ps) ps) (lu (ar l) us))):qY C (ar l) (.mU f args us) K:=by
 refine⟨aq,g,caps,ps,r,h1,hX,by rw[af,B2],Jr ay,a_,b1,dn,?_,hK⟩;intro hl;rcases dc with dc|dc
 .rw[dc]at hl;cases hl
 .rw[Bool.and_eq_true]at dc;exact⟨dc.1,Js dc.2⟩
theorem Jt {f:bA} {args:List bA} {g:FuncId} {caps:aAk} {r:I} {us:aAf} (ps:List dq) (b1:aW C g (ps.map (·.d)) r (ps.map (·.o)))
  (h1:bx (ar l) f= .fn g caps) (hX:I.e6 caps=true) (af:ps.map (·.a)=lx (ar l) args++caps) (ay:s9 (ar l) ps) (a_:jH ps=true)
  (dn:r.res=true) (dc:lU ps=false\/(r.c8&&uC ps)=true) (aq:oD (ar l) (lu (ar l) us)=true)
  (hK:oD (iK (fM (ar l) ps) ps) (lu (ar l) us)=true/\dD C (fin (qa (iK (fM (ar l) ps) ps) (lu (ar l) us)) dst r) os none K):dD C (ar l) (⟨dst,.mU f args us,none⟩::os) none K:=by
 simp only[dD,o6,s7];exact ahM ps r aq h1 hX af ay a_ b1 dn dc hK
theorem XU (s:an):lu s []=[]/\(∀u us,lu s (u::us)=(u,s u)::lu s us)/\oD s []=true/\(∀p L,oD s (p::L)=(p.2.gD s&&oD s L))/\qa s []=s/\(∀p L,qa s (p::L)=qa (eo s p.1 p.2) L)/\
  (∀x,I.gD s (.h x [])=(s x).own)/\(∀x k,I.gD s (.ab x k)= !(s x).plain)/\(∀f c,I.gD s (.fn f c)=I.rN s c)/\I.rN s []=true/\(∀d ds,I.rN s (d::ds)=(d.gD s&&I.rN s ds))/\
  (∀k n,I.gD s (.int k n)=true)/\(∀b,I.gD s (.bool b)=true)/\(∀x,I.gD s (.str x)=true)/\(∀x,I.gD s (.slice x)=true)/\(∀x,I.gD s (.ref x)=true)/\I.gD s .bf=true/\I.gD s .et=true/\(∀aG,I.gD s (.agg aG)=I.e6 aG):=
 ⟨rfl,λ_ _=>rfl,rfl,λ_ _=>rfl,rfl,λ_ _=>rfl,λ_=>rfl,λ_ _=>rfl,λ_ _=>rfl,rfl,λ_ _=>rfl,λ_ _=>rfl,λ_=>rfl,λ_=>rfl,λ_=>rfl,λ_=>rfl,rfl,rfl,λ_=>rfl⟩
theorem kj {f:bA} {args:List bA} {g:FuncId} {caps:aAk} {r:I} (ps:List dq) (b1:aW C g (ps.map (·.d)) r (ps.map (·.o)))
  (h1:bx (ar l) f= .fn g caps) (hX:I.e6 caps=true) (af:ps.map (·.a)=lx (ar l) args++caps) (ay:s9 (ar l) ps) (a_:jH ps=true)
  (dn:r.res=true) (dc:lU ps=false\/(r.c8&&uC ps)=true)
  (hK:dD C (fin (iK (fM (ar l) ps) ps) dst r) os none K):dD C (ar l) (⟨dst,.call f args,none⟩::os) none K:=by
 simp only[dD,o6,s7];exact XT ps r h1 hX af ay a_ b1 dn dc hK
theorem OL {a:List fJ} {f:bA} {args:List bA} {g:FuncId} {caps:aAk} {r:I} (ps:List dq) (b1:aW C g (ps.map (·.d)) r (ps.map (·.o)))
  (h1:bx (ar l) f= .fn g caps) (hX:I.e6 caps=true) (af:ps.map (·.a)=lx (ar l) args++caps) (ay:s9 (ar l) ps) (a_:jH ps=true)
  (dn:r.res=true) (dc:lU ps=false\/(r.c8&&uC ps)=true)
  (hK:dD C (fin (iK (fM (ar l) ps) ps) dst r) os (some (kV (ar l) (use (ar l) (.call f args)) dst (uz ps) r::a)) K):dD C (ar l) (⟨dst,.call f args,none⟩::os) (some a) K:=by
 simp only[dD,o6,s7];exact XT ps r h1 hX af ay a_ b1 dn dc hK
theorem kX (s:an):s9 s []=True/\(∀p ps,s9 s (p::ps)=(p.ok s/\s9 s ps))/\(∀a d o,dq.ok s ⟨a,false,d,o⟩=(view s a=some d))/\
  (∀x q d o,dq.ok s ⟨.h x q,true,d,o⟩=(I.sub q (s x)=some d/\d.hv=true/\(o= .hole\/(o.hv=true/\xW d o=true)))):=by
 refine⟨rfl,λ_ _=>rfl,λ_ _ _=>?_,λ_ _ _ _=>?_⟩<;>simp[dq.ok]
theorem kk:(∀d,I.own (.aP d)=true)/\(∀n xs,I.own (.ag n xs)=true)/\(∀d,I.hv (.aP d)=true)/\(∀n xs,I.hv (.ag n xs)=true)/\(∀aG,I.hv (.agg aG)= !I.e6 aG)/\
  (∀d e,xW (.aP d) (.aP e)=true)/\(∀n xs m cq,xW (.ag n xs) (.ag m cq)=true)/\(∀a b,xW (.agg a) (.agg b)=(I.e_ a==I.e_ b)):=⟨λ_=>rfl,λ_ _=>rfl,λ_=>rfl,λ_ _=>rfl,λ_=>rfl,λ_ _=>rfl,λ_ _ _ _=>rfl,λ_ _=>rfl⟩
theorem jI (s:an):fM s []=s/\iK s []=s/\(∀p ps,fM s (p::ps)=fM (dq.take s p) ps)/\(∀p ps,iK s (p::ps)=iK (dq.kR s p) ps)/\
  (∀a d o,dq.take s ⟨a,false,d,o⟩=s)/\(∀a d o,dq.kR s ⟨a,false,d,o⟩=s)/\(∀x q d o,dq.take s ⟨.h x q,true,d,o⟩=eo (js x s) x (I.put q d.d_ (s x)))/\
  (∀a d,dq.kR s ⟨a,true,d,.hole⟩=s)/\(∀x q d e,dq.kR s ⟨.h x q,true,d,.aP e⟩=eo (oZ x s) x (I.put q (.aP e) (s x)))/\
  (∀x q d n xs,dq.kR s ⟨.h x q,true,d,.ag n xs⟩=eo (oZ x s) x (I.put q (.ag n xs) (s x)))/\
  (∀x q d aG,dq.kR s ⟨.h x q,true,d,.agg aG⟩=eo (oZ x s) x (I.put q (.agg aG) (s x))):=by
 refine⟨rfl,rfl,λ_ _=>rfl,λ_ _=>rfl,?_,?_,?_,?_,?_,?_,?_⟩<;>intros<;>simp[dq.take,dq.kR]
def ye (s:an) (fx rs:aAf):Nat->aAk->Bool->Prop
 |_,[],_=>True
 |k,o::r,b=>(o= .hole\/(o=s k/\o.hv=true/\fx.contains k=true/\rs.contains k=false))/\ye s fx rs (k+1) r b
theorem h0 {s:an} {fx:aAf} {e8:List ResultVar} {outs:aAk} (h:ye s fx (e8.map kF) 0 outs true):∀(i:Nat) (o:I),outs[i]? =some o->o= .hole\/(o=s i/\o.hv=true/\i∈fx/\i∉e8.map kF):=by
 have key:∀(outs:aAk) (k:Nat),ye s fx (e8.map kF) k outs true->∀(i:Nat) (o:I),outs[i]? =some o->o= .hole\/(o=s (k+i)/\o.hv=true/\k+i∈fx/\k+i∉e8.map kF):=by
  intro outs;induction outs with
  |nil=>intro k _ i o h;simp at h
  |cons a outs ih=>
   intro k h i o bG;cases i with
   |zero=>
    simp at bG;subst bG;rcases h.1 with h|⟨h1,af,ay,a_⟩
    .exact .inl h
    .exact .inr ⟨h1,af,by simpa using ay,by simpa using a_⟩
   |succ i=>
    have:=ih (k+1) h.2 i o (by simpa using bG);rw[show k+(i+1)=k+1+i by omega];exact this
 intro i o bG;have:=key outs 0 h i o bG;simpa using this
theorem dK {s:an} {fx rs:aAf} {k:Nat} {l:aAk} (h:ye s fx rs (k+1) l true):ye s fx rs k (.hole::l) true:=⟨.inl rfl,h⟩
theorem kl {s:an} {fx rs:aAf} {k:Nat} {o:I} {l:aAk} (h1:o=s k) (af:o.hv=true) (ay:fx.contains k=true) (a_:rs.contains k=false) (h:ye s fx rs (k+1) l true):ye s fx rs k (o::l) true:=⟨.inr ⟨h1,af,ay,a_⟩,h⟩
theorem h2 {s:an} {fx rs:aAf} {k:Nat}:ye s fx rs k [] true:=trivial
theorem l1 {Q:Exit->an->Prop} {ros:List cB} {k:aAf} {b:aA} (h:dD C (ar l) ros none (λ_ s=>eM (bn C b Q) (ar (gK k s)))):bn C (.seq (.eh ros (some k)) b) Q (ar l):=zM (λ_ _ h=>h) h
theorem FE {K:an->Prop} {s:an} (cr:aAj) (h:x3 s cr) (hk:K (ar cr)):eM K s:=.inr ⟨cr,h,hk⟩
def I.ahN:I->Bool
 | .tuple _=>true
 | .ck _=>true
 | .gN _ _=>true
 |_=>false
theorem zU {d e:I} (a6:d.tree=true) (aV:d.ahN=false) (h:d.share=e):fB d e:=by
 subst h;exact .share d a6 (λvs e=>by subst e;cases aV) (λo e=>by subst e;cases aV) (λ_ _ e=>by subst e;cases aV)
theorem Ju:(∀neg e r,yb neg (.slice e) (some r)=some (sR neg r))/\(∀neg,sR neg none= .gq)/\sR false (some false)= .bool false/\sR true (some false)= .bool true/\sR false (some true)= .bool true/\sR true (some true)= .bool false/\(∀s,mh s .bf=some (some true)):=
 ⟨λ_ _ _=>rfl,λ_=>rfl,rfl,rfl,rfl,rfl,λ_=>rfl⟩
theorem XV {α:Type} {xs:List α} (h:xs.isEmpty=true) (e:α->I) (s:an):mh s (.slice (xs.map e))=some none:=by
 have:xs=[]:=isEmpty_iff.1 h;subst this;rfl
theorem XW {α:Type} {xs:List α} (h:xs.isEmpty=false) (e:α->I) (s:an):mh s (.slice (xs.map e))=some (some false):=by
 cases xs with
 |nil=>cases h
 |cons x xs=>rfl
def ahO:Option I->Option aAg
 |some (.ag _ xs)=>some (if xs=[]then none else some false)
 |_=>none
theorem Jv (s:an) (x:Nat) (q:aAf):mh s (.h x q)=ahO (I.sub q (s x)):=by
 simp only[mh];rfl
theorem aW.nil {C:cu} {f:FuncId} {args:aAk} {r:I} {outs:aAk} (i:Nat) (h:aW C f (args.set i (.slice [])) r outs) (aj:args[i]? =some .bf):aW C f args r outs:=by
 intro w F X S vs hl aR;have kS:=aR.eg i;have ae:gd args i= .bf:=by simp[gd,List.getD,aj]
 rw[ae]at kS;have aB:aQ w F (gd args) (hW vs) (.slice []) (hW vs i) (λ_=>False):=by
  rw[aQ.dj rfl]at kS⊢;refine⟨kS.1,?_⟩;have af:=kS.2;simp only[az]at af⊢;exact .inl ⟨trivial,none,0,af,zero_le _,λ_=>rfl⟩
 have af:=aR.BA (t:=i) rfl aB;have aK:eo (gd args) i (.slice [])=gd (args.set i (.slice [])):=by
  funext t;have eA:i<args.length:=(List.getElem?_eq_some_iff.1 aj).1;by_cases a6:t=i
  .subst a6;simp[eo,gd,List.getD,eA]
  .have:i≠t:=λe=>a6 e.symm;simp[eo,a6,gd,List.getD,this]
 have aT:eo (hW vs) i (hW vs i)=hW vs:=by
  funext t;by_cases a6:t=i
  .subst a6;simp[eo]
  .simp[eo,a6]
 rw[aK,aT]at af;exact h w F X _ vs (by simpa using hl) af
theorem oG (a b:aAk):I.shares (a++b)=I.shares a++I.shares b:=by simp only[I.xH,map_append]
def qf:Option (I×an)->Option (I×an)
 |some (av,s)=>if(av.tree&& !av.Fs)=true then some (av.share,s)else none
 |none=>none
theorem oH (s:an):(∀n xs,qf (some (.ag n xs,s))=some (.slice (I.shares xs),s))/\(∀d,qf (some (.aP d,s))=some (.ref d.share,s))/\(∀ds,qf (some (.agg ds,s))=some (.agg (I.shares ds),s)):=
 ⟨λ_ _=>rfl,λ_=>rfl,λ_=>rfl⟩
theorem Jw {s:an} {b4:e2} {K:aAf->I->an->Prop}:qY C s (.shr b4) K=(match qf (ch C s b4)with
  |some (av,s1)=>K (lr s b4) av s1
  |none=>False):=by
 apply propext;cases he:ch C s b4 with
 |none=>
  simp only[qf];exact⟨λ⟨av,s1,h1,_⟩=>(by rw[he]at h1;cases h1),λh=>h.elim⟩
 |some p=>
  obtain⟨av,s1⟩:=p;simp only[qf];by_cases a6:(av.tree&& !av.Fs)=true
  .rw[if_pos a6];simp only[Bool.and_eq_true,Bool.not_eq_true']at a6;constructor
   .rintro⟨ahP,ahQ,h1,af,ay,a_⟩;rw[he]at h1;simp only[some.injEq,Prod.mk.injEq]at h1;obtain⟨rfl,rfl⟩:=h1;exact a_
   .intro h;exact⟨av,s1,he,a6.1,λvs e=>by subst e;simp[I.Fs]at a6,h⟩
  .rw[if_neg a6];constructor
   .rintro⟨ahP,ahQ,h1,af,ay,a_⟩;rw[he]at h1;simp only[some.injEq,Prod.mk.injEq]at h1;obtain⟨rfl,rfl⟩:=h1;refine a6 ?_;rw[af];cases av<;>first|rfl|exact(ay _ rfl).elim
   .intro h;exact h.elim
theorem oI (b4:e2):(dD C (ar l) (⟨dst,.shr b4,none⟩::os) none K=pL C dst os K (qf (ch C (ar l) b4)))/\
  (∀a,dD C (ar l) (⟨dst,.shr b4,none⟩::os) (some a) K=qd C l (use (ar l) b4) (lr (ar l) b4) dst os a K (qf (ch C (ar l) b4)))/\
  (∀t b,lW C l dst (.shr b4) t b os none K (.bool b)=pL C dst os K (qf (ch C (ar l) b4)))/\
  (∀a t b,lW C l dst (.shr b4) t b os (some a) K (.bool b)=qd C l (t::use (ar l) b4) (lr (ar l) b4) dst os a K (qf (ch C (ar l) b4))):=by
 refine⟨?_,λa=>?_,λt b=>?_,λa t b=>?_⟩
 .simp only[dD,o6,Jw];cases qf (ch C (ar l) b4)with
  |none=>rfl
  |some p=>rfl
 .simp only[dD,o6,Jw];cases qf (ch C (ar l) b4)with
  |none=>rfl
  |some p=>rfl
 .simp only[lW,if_true,Jw];cases qf (ch C (ar l) b4)with
  |none=>rfl
  |some p=>rfl
 .simp only[lW,if_true,Jw];cases qf (ch C (ar l) b4)with
  |none=>rfl
  |some p=>rfl
theorem Jx {α:Type} {u e:α->I} (h:∀x,fB (u x) (e x)):∀xs:List α,mC (xs.map u) (xs.map e)
 |[]=>.nil
 |x::xs=>.cons (h x) (Jx h xs)
def yf (C:cu) (s:an) (y:Nat) (q:aAf) (b:Int):qK->Option I->Option (I×an)
 | .slice e,some (.ag sz xs)=>(match gp xs 0 b with
   |some t=>if(C.T e).ok=true then(match dG s (.h y q)with|some (_,s1)=>some (.ag sz t,s1)|none=>none)else none
   |none=>none)
 |_,_=>none
theorem XX (C:cu) (s:an) (T:TypeId) (y:Nat) (q:aAf):(∀k b,iJ C s T (.h y q) none (some (.int k b))=yf C s y q b (C.T T).k (I.sub q (s y)))/\
  (∀k b dr,iJ C s T (.h y q) (some (.int dr 0)) (some (.int k b))=yf C s y q b (C.T T).k (I.sub q (s y)))/\
  (∀e sz xs b t,gp xs 0 b=some t->yf C s y q b (.slice e) (some (.ag sz xs))=if(C.T e).ok=true then(match dG s (.h y q)with|some (_,s1)=>some (.ag sz t,s1)|none=>none)else none):=by
 have key:∀(fP:Option I) (k:IntKind) (b:Int),jR 0 fP=some 0->iJ C s T (.h y q) fP (some (.int k b))=yf C s y q b (C.T T).k (I.sub q (s y)):=by
  intro fP k b a7;simp only[iJ];generalize (C.T T).k=ny;cases ny<;>first|rfl|skip
  rename_i e;cases ae:I.sub q (s y)with
  |none=>simp only[ae];rfl
  |some d=>
   cases d with
   |ag sz xs=>
    have Jy:jR xs.length (some (.int k b))=if 0<=b then some b.toNat else none:=rfl;simp only[ae,a7,Jy,yf,gp];by_cases ab:0<=b
    .by_cases au:b<=xs.length
     .have h1:b.toNat<=xs.length:=by omega
      simp only[ab,au,h1,if_true,true_and,Int.le_refl,and_self,Int.toNat_zero,drop_zero];rfl
     .have h1:¬b.toNat<=xs.length:=by omega
      simp only[ab,au,h1,if_true,if_false,and_false,false_and,Int.le_refl]
    .simp only[ab,if_false,false_and,and_false]
   |_=>simp only[ae];rfl
 refine⟨λk b=>key _ _ _ rfl,λk b dr=>key _ _ _ (by simp[jR]),λe sz xs b t h=>?_⟩;simp only[yf,h]
def OM (s:an) (y:Nat):I->Option (I×an)
 | .agg ds=>if I.e6 ds then none else some (.ab y 0,s)
 |_=>none
theorem XY (C:cu) (l:aAj) (dst:Option Nat) (os:List cB) (K:Option (List fJ)->an->Prop):
  (∀x,dD C (ar l) (⟨dst,.p_ x,none⟩::os) none K=pL C dst os K (some (bx (ar l) x,ar l)))/\
  (∀a x,dD C (ar l) (⟨dst,.p_ x,none⟩::os) (some a) K=qd C l (use (ar l) (.p_ x)) (lr (ar l) (.p_ x)) dst os a K (some (bx (ar l) x,ar l))):=
 ⟨λ_=>(wa rfl).trans (congrArg _ rfl),λ_ _=>(x_ rfl).trans (congrArg _ rfl)⟩
theorem B6 (C:cu) (l:aAj) (dst:Option Nat) (os:List cB) (K:Option (List fJ)->an->Prop):
  (∀x,dD C (ar l) (⟨dst,.pG x,none⟩::os) none K=pL C dst os K (wb (ar l) (bx (ar l) x)))/\
  (∀a x,dD C (ar l) (⟨dst,.pG x,none⟩::os) (some a) K=qd C l (use (ar l) (.pG x)) (lr (ar l) (.pG x)) dst os a K (wb (ar l) (bx (ar l) x))):=by
 have e:∀x,ch C (ar l) (.pG x)=wb (ar l) (bx (ar l) x):=λx=>by
  simp only[ch];cases bx (ar l) x<;>rfl
 exact⟨λx=>(wa rfl).trans (congrArg _ (e x)),λ_ x=>(x_ rfl).trans (congrArg _ (e x))⟩
theorem XZ (C:cu) (l:aAj) (dst:Option Nat) (os:List cB) (K:Option (List fJ)->an->Prop):
  (dD C (ar l) (⟨dst,.sU,none⟩::os) none K=pL C dst os K (some (.ck (.mp []),ar l)))/\
  (∀a,dD C (ar l) (⟨dst,.sU,none⟩::os) (some a) K=qd C l (use (ar l) .sU) (lr (ar l) .sU) dst os a K (some (.ck (.mp []),ar l))):=
 ⟨wa rfl,λ_=>x_ rfl⟩
theorem Jz (C:cu) (l:aAj) (T:TypeId) (x i:bA):ch C (ar l) (.jU T x i)=lv (ar l) (jU C (ar l) T (bx (ar l) x) (bx (ar l) i)):=by simp only[ch,Ou]
theorem X0 (C:cu) (l:aAj) (T:TypeId) (x i v:bA):ch C (ar l) (.k6 T x i v)=da (k6 C (ar l) T (bx (ar l) x) (bx (ar l) i) (bx (ar l) v)):=by simp only[ch,W1]
theorem ON (C:cu) (l:aAj) (dst:Option Nat) (os:List cB) (K:Option (List fJ)->an->Prop):
  (∀T x i,dD C (ar l) (⟨dst,.jU T x i,none⟩::os) none K=pL C dst os K (lv (ar l) (jU C (ar l) T (bx (ar l) x) (bx (ar l) i))))/\
  (∀a T x i,dD C (ar l) (⟨dst,.jU T x i,none⟩::os) (some a) K=qd C l (use (ar l) (.jU T x i)) (lr (ar l) (.jU T x i)) dst os a K (lv (ar l) (jU C (ar l) T (bx (ar l) x) (bx (ar l) i))))/\
  (∀T x i t b,lW C l dst (.jU T x i) t b os none K (.bool b)=pL C dst os K (lv (ar l) (jU C (ar l) T (bx (ar l) x) (bx (ar l) i))))/\
  (∀a T x i t b,lW C l dst (.jU T x i) t b os (some a) K (.bool b)=qd C l (t::use (ar l) (.jU T x i)) (lr (ar l) (.jU T x i)) dst os a K (lv (ar l) (jU C (ar l) T (bx (ar l) x) (bx (ar l) i)))):=
 ⟨λ_ _ _=>(wa rfl).trans (congrArg _ (Jz ..)),λ_ _ _ _=>(x_ rfl).trans (congrArg _ (Jz ..)),λ_ _ _ _ _=>(Oq rfl).trans (congrArg _ (Jz ..)),λ_ _ _ _ _ _=>(Ot rfl).trans (congrArg _ (Jz ..))⟩
theorem OO (C:cu) (l:aAj) (dst:Option Nat) (os:List cB) (K:Option (List fJ)->an->Prop):
  (∀T x i v,dD C (ar l) (⟨dst,.k6 T x i v,none⟩::os) none K=pL C dst os K (da (k6 C (ar l) T (bx (ar l) x) (bx (ar l) i) (bx (ar l) v))))/\
  (∀a T x i v,dD C (ar l) (⟨dst,.k6 T x i v,none⟩::os) (some a) K=qd C l (use (ar l) (.k6 T x i v)) (lr (ar l) (.k6 T x i v)) dst os a K (da (k6 C (ar l) T (bx (ar l) x) (bx (ar l) i) (bx (ar l) v)))):=
 ⟨λ_ _ _ _=>(wa rfl).trans (congrArg _ (X0 ..)),λ_ _ _ _ _=>(x_ rfl).trans (congrArg _ (X0 ..))⟩
def JA (s:an) (y:Nat):Option I->Option (I×an)
 |some (.h z p)=>if z=y then wb s (.h z p)else none
 |_=>none
theorem JB (C:cu) (l:aAj) (dst:Option Nat) (os:List cB) (K:Option (List fJ)->an->Prop):
  (∀x k,dD C (ar l) (⟨dst,.ext x k,none⟩::os) none K=pL C dst os K (xU (ar l) (bx (ar l) x) k))/\
  (∀a x k,dD C (ar l) (⟨dst,.ext x k,none⟩::os) (some a) K=qd C l (use (ar l) (.ext x k)) (lr (ar l) (.ext x k)) dst os a K (xU (ar l) (bx (ar l) x) k)):=
 ⟨λx k=>wa rfl,λ_ x k=>x_ rfl⟩
theorem JC:(∀s y q k,xU s (.h y q) k=JA s y (ex s (.h y q) k))/\(∀s y p,JA s y (some (.h y p))=wb s (.h y p)):=by
 refine⟨λs y q k=>?_,λs y p=>by simp[JA]⟩;unfold xU JA;cases ex s (.h y q) k with
 |none=>rfl
 |some d=>cases d<;>rfl
def X1 (T:Bool) (k:aAc):Option I->Option I
 |some (.ck (.mp m))=>if T=true then some (.bool (kc k m))else none
 |_=>none
def X2 (T:Bool) (s:an) (y:Nat) (q:aAf) (k:aAc) (b:Bool):Option I->Option an
 |some (.ck (.mp m))=>if T=true then some (eo (js y s) y (I.put q (.ck (.mp (kx k b m))) (s y)))else none
 |_=>none
theorem B7:(∀(C:cu) (s:an) (T:TypeId) y q k,jU C s T (.h y q) (.str k)=X1 (rH C T) k (I.sub q (s y)))/\(∀k m,X1 true k (some (.ck (.mp m)))=some (.bool (kc k m)))/\
  (∀(C:cu) (s:an) (T:TypeId) y q k b,k6 C s T (.h y q) (.str k) (.bool b)=X2 (rH C T) s y q k b (I.sub q (s y)))/\
  (∀s y q k b m,X2 true s y q k b (some (.ck (.mp m)))=some (eo (js y s) y (I.put q (.ck (.mp (kx k b m))) (s y)))):=
 ⟨λ_ _ _ _ _ _=>rfl,λ_ _=>rfl,λ_ _ _ _ _ _ _=>rfl,λ_ _ _ _ _ _=>rfl⟩
theorem JD (C:cu) (l:aAj) (fp:Bool) (x y:bA):ch C (ar l) (.kQ fp x y)=lv (ar l) (kQ fp (bx (ar l) x) (bx (ar l) y)):=by simp only[ch,Ou]
theorem X3 (C:cu) (l:aAj) (dst:Option Nat) (os:List cB) (K:Option (List fJ)->an->Prop):
  (∀fp x y,dD C (ar l) (⟨dst,.kQ fp x y,none⟩::os) none K=pL C dst os K (lv (ar l) (kQ fp (bx (ar l) x) (bx (ar l) y))))/\
  (∀a fp x y,dD C (ar l) (⟨dst,.kQ fp x y,none⟩::os) (some a) K=qd C l (use (ar l) (.kQ fp x y)) (lr (ar l) (.kQ fp x y)) dst os a K (lv (ar l) (kQ fp (bx (ar l) x) (bx (ar l) y))))/\
  (∀fp x y t b,lW C l dst (.kQ fp x y) t b os none K (.bool b)=pL C dst os K (lv (ar l) (kQ fp (bx (ar l) x) (bx (ar l) y))))/\
  (∀a fp x y t b,lW C l dst (.kQ fp x y) t b os (some a) K (.bool b)=qd C l (t::use (ar l) (.kQ fp x y)) (lr (ar l) (.kQ fp x y)) dst os a K (lv (ar l) (kQ fp (bx (ar l) x) (bx (ar l) y)))):=
 ⟨λ_ x y=>(wa rfl).trans (congrArg _ (JD ..)),λ_ _ x y=>(x_ rfl).trans (congrArg _ (JD ..)),λ_ x y _ _=>(Oq rfl).trans (congrArg _ (JD ..)),λ_ _ x y _ _=>(Ot rfl).trans (congrArg _ (JD ..))⟩
theorem ahR (fp:Bool) (k:IntKind) (a b:Int):kQ fp (.int k a) (.int k b)=some (.int k (k1 fp a b)):=if_pos rfl
theorem ahS (fp:Bool) (a b:aAc):kQ fp (.str a) (.str b)=some (.str (hU fp a b)):=rfl
theorem yg {C:cu} {l:aAj} {os:List cB} {K:Option (List fJ)->an->Prop} {dst:Option Nat} (T:TypeId) (x:bA):
  dD C (ar l) (⟨dst,.mg T x,none⟩::os) none K=pL C dst os K (mg (ar l) (bx (ar l) x)):=wa rfl
theorem yh:(∀(t x k:Nat),ud t (.ab x k)= .ab x k)/\(∀(l:aAj) (t x k:Nat),fin (ar l) (some t) (.ab x k)=ar ((t,.ab x k)::l))/\(∀x k:Nat,I.plain (.ab x k)=true)/\
  (∀(s:an) (x k:Nat),wb s (.ab x k)=some (.ab x k,s))/\(∀(t y k:Nat),dJ t (.ab y k)=if y=t then .hole else .ab y k)/\(∀(t y k:Nat),cU t (.ab y k)= .ab y k)/\(∀x k:Nat,I.wd (.ab x k)=1):=
 ⟨λ_ _ _=>rfl,λl t x k=>by simp only[fin,I.plain,if_true,Fq],λ_ _=>rfl,λ_ _ _=>rfl,λ_ _ _=>by simp only[dJ],λ_ _ _=>by simp only[cU],λ_ _=>rfl⟩
theorem yi:(∀(s:an) y,mg s (.h y [])=OM s y (s y))/\(∀(s:an) y aG,OM s y (.agg aG)=if I.e6 aG then none else some (.ab y 0,s))/\
  (∀k i ds d,IF (d::ds) i k=if k=0 then some i else if d.wd<=k then IF ds (i+1) (k-d.wd)else none):=
 ⟨λs y=>by simp only[mg,OM];cases s y<;>rfl,λ_ _ _=>rfl,λ_ _ _ _=>rfl⟩
theorem FF {α:Type} {l:List α} {i:Nat} {x:α} (h:l[i]? =some x) (u:α->I) (a:I):((l.map u).set i a)[i]? =some a:=by
 have:i<l.length:=(List.getElem?_eq_some_iff.1 h).1;rw[getElem?_set_self (by simpa using this)]
theorem FG {α:Type} (l:List α) (u:α->I) (i:Nat) (a b:I):((l.map u).set i a).set i b=(l.map u).set i b:=set_set ..
end
end Go.en
namespace Go.en
open List Option Go.IntKind Nat Or
open Go.Sort
section
variable {α:Type} {e:α->I} {enc:α->Value}
def One (e:α->I) (enc:α->Value):Prop:=(∀x,(e x).wd=1)/\∀(w:World) (F:Nat->Prop) (x:α) (cs:aAi) (S:Nat->Prop),az w F (e x) cs S↔cs=[enc x]
theorem Pa (he:One e enc) {w:World} {F:Nat->Prop}:∀(xs:List α) (cs:aAi) (S:Nat->Prop),br w F (xs.map e) cs S->cs=xs.map enc:=by
 intro xs;induction xs with
 |nil=>intro cs S h;simpa [br]using h
 |cons x xs ih=>
  intro cs S h;simp only[map_cons,br]at h;obtain⟨c1,c2,cL,eG,rfl,h1,af,_⟩:=h;rw[(he.2 _ _ _ _ _).1 h1,ih _ _ af];rfl
theorem ai_ (he:One e enc) {w:World} {F:Nat->Prop}:∀(xs:List α),br w F (xs.map e) (xs.map enc) (λ_=>False):=by
 intro xs;induction xs with
 |nil=>simp[br]
 |cons x xs ih=>
  simp only[map_cons,br];exact⟨[enc x],xs.map enc,_,_,rfl,(he.2 _ _ _ _ _).2 rfl,ih,λ_ h=>h,λ_ h=>h,λ_ h=>h.elim⟩
theorem YP (w:World) (os:Array Obj) {c:Nat} (h:c<w.heap.size):(Sort.grow w os).heap[c]? =w.heap[c]? :=by
 simp only[Sort.grow,Array.getElem?_append,h,if_true]
variable [Inhabited α]
theorem YQ (he:One e enc) {w:World} {F X:Nat->Prop} {S:Nat->Nat->Prop} {s:an} {aD:Nat->Value} (h:ca w F X F S s aD w)
  {b cap:Nat} {cur:Array Value} {mS:TypeId} {fr:Nat×Nat} {xs cq zs:List α} (cc:S 0 b) (ab:w.heap[b]? =some (.cells cur mS fr)) (wj:ov fr cur.size) (Vf:cur.size=cap) (sZ:xs.length<=cap) (hm:cap<=maxLen)
  (hl:(cq++zs).length=xs.length) {n:Nat} {os:Array Obj} {aJ:World} (hw:aJ=Sort.grow (putRow enc (Sort.ahead w n) b 0 (cq++zs).toArray) os) {aC:an} {kf:Nat->Value} {t:Nat}
  (a6:aC t= .ag 1 (cq.map e)) (aB:kf t= .slice (some ⟨b,0,none⟩) cq.length cap) (bG:∀u,u≠t->aC u= .hole\/(aC u= .tuple []/\kf u= .tuple #[])):
  ca w F X F (λu c=>u=t/\c=b) aC kf aJ:=by
 have aja:=h.fc 0 b cc;have eX:(putRow enc (Sort.ahead w n) b 0 (cq++zs).toArray).heap.size=w.heap.size:=size_putRow ..;have YR:w.heap.size<=aJ.heap.size:=by rw[hw,size_grow,eX];omega
 have p7:∀c,c<w.heap.size->c≠b->aJ.heap[c]? =w.heap[c]? :=by
  intro c au dP;rw[hw,YP _ _ (by rw[eX];exact au)];simp only[putRow,mapBlock,Array.getElem?_modify,if_neg (Ne.symm dP)];rfl
 have E4:aJ.heap[b]? =some (.cells (putCells enc 0 (cq++zs).toArray cur) mS fr):=by
  rw[hw,YP _ _ (by rw[eX];exact aja)];simp only[putRow,mapBlock,Array.getElem?_modify,if_true];rw[show(Sort.ahead w n).heap=w.heap from rfl,ab];rfl
 have ln:(putCells enc 0 (cq++zs).toArray cur).toList.take cq.length=cq.map enc:=by
  apply ext_getElem?;intro k;simp only[putCells,getElem?_take,Array.getElem?_toList,Array.getElem?_mapIdx,getElem?_map];have hlen:cq.length+zs.length=xs.length:=by simpa using hl
  by_cases hk:k<cq.length
  .rw[if_pos hk,Array.getElem?_eq_getElem (by omega),getElem?_eq_getElem hk];simp only[map_some];rw[if_pos (by simp;omega)];simp only[Nat.sub_zero];rw[getElem!_pos _ k (by simp;omega)];simp[hk]
  .rw[if_neg hk,getElem?_eq_none (by omega)];rfl
 exact {
  hL:=λ_ h=>h
  h9:=λb bC=>.inl bC
  fG:=λc au=>Nat.lt_of_lt_of_le (h.fG c au) YR
  fc:=λu c au=>by rw[au.2];omega
  gl:=λu c au bC=>by rw[au.2]at bC;exact h.gl 0 b cc bC
  fT:=λu x c dP hu aq=>dP (hu.1.trans aq.1.symm)
  eI:=λu c au=>by rw[au.2];exact h.eI 0 b cc
  eg:=λu=>by
   by_cases hu:u=t
   .subst hu;rw[a6,aB];refine(aQ.dj rfl).2 ⟨rfl,?_⟩;rw[az];right;refine⟨b,cap,_,mS,fr,λ_=>False,?_,⟨rfl,rfl⟩,E4,?_,?_,hm,?_,?_,?_,λ_ h=>h.elim,λh=>h⟩
    .simp[cZ,jd]
    .simpa [putCells]using wj
    .simp at hl⊢;omega
    .simpa [putCells]using Vf
    .intro d ao;obtain⟨x,_,rfl⟩:=mem_map.1 ao;exact he.1 x
    .rw[length_map,Nat.mul_one,ln];exact ai_ he cq
   .rcases bG u hu with h1|⟨h1,af⟩
    .rw[h1,aQ];trivial
    .rw[h1,af];refine(aQ.dj rfl).2 ⟨⟨#[],rfl,rfl,λk d x ao=>by simp at ao⟩,?_⟩;rw[az,br];rfl
  old:=λc au me=>p7 c au (λxK=>by
   rcases h.eI 0 b cc with h1|h1
   .exact me (xK▸h1)
   .omega)
  size:=YR
  os:=by rw[hw];rfl
  tape:=by rw[hw];rfl
  output:=by rw[hw];exact⟨rfl,λ_=>le_add_right _ _⟩
  fU:=h.fU}
theorem YS {w:World} {b:Nat} {cur:Array Value} {mS:TypeId} {fr:Nat×Nat} {xs:List α} (ab:w.heap[b]? =some (.cells cur mS fr)) (wj:ov fr cur.size)
  (hl:xs.length<=cur.size) (au:cur.toList.take xs.length=xs.map enc):Holds enc w b 0 xs.toArray:=by
 intro j bE;have FP:j<xs.length:=by simpa using bE
 constructor
 .have h1:(cur.toList.take xs.length)[j]? =some (enc xs[j]):=by rw[au,getElem?_map,getElem?_eq_getElem FP];rfl
  rw[getElem?_take,if_pos FP]at h1;simp only[World.cell?,ab,Nat.zero_add];rw[getElem!_pos _ j bE];simpa using h1
 .simp only[World.frozen?,ab,Nat.zero_add];have:=wj j (by omega);simpa using this
theorem YT {w:World} {F X:Nat->Prop} {S:Nat->Nat->Prop} {s:an} {aD:Nat->Value} (h:ca w F X F S s aD w) {aC:an} {kf:Nat->Value}
  (bG:∀u,aC u= .hole\/(aC u= .tuple []/\kf u= .tuple #[])\/(aC u= .ag 1 []/\∃a,kf u= .slice a 0 0)):ca w F X F (λ_ _=>False) aC kf w where
 hL:=λ_ h=>h
 h9:=λ_ bC=>.inl bC
 fG:=h.fG
 fc:=λ_ _ h=>h.elim
 gl:=λ_ _ h=>h.elim
 fT:=λ_ _ _ _ h=>h.elim
 eI:=λ_ _ h=>h.elim
 eg:=λu=>by
  rcases bG u with h1|⟨h1,af⟩|⟨h1,a,af⟩
  .rw[h1,aQ];trivial
  .rw[h1,af];refine(aQ.dj rfl).2 ⟨⟨#[],rfl,rfl,λk d x ao=>by simp at ao⟩,?_⟩;rw[az,br];rfl
  .rw[h1,af];refine(aQ.dj rfl).2 ⟨rfl,?_⟩;rw[az];exact .inl ⟨rfl,a,by simp[cZ,jd]⟩
 old:=h.old
 size:=h.size
 os:=h.os
 tape:=h.tape
 output:=h.output
 fU:=h.fU
theorem YU {w:World} {F:Nat->Prop} {s:an} {aD:Nat->Value} {xs:aAk} {v:Value} {S:Nat->Prop} (h:aQ w F s aD (.ag 1 xs) v S):
  (xs=[]/\∃a,v= .slice a 0 0)\/∃b cap cur mS fr aY,v= .slice (some ⟨b,0,none⟩) xs.length cap/\S b/\w.heap[b]? =some (.cells cur mS fr)/\ov fr cur.size/\
     xs.length<=cap/\cap<=maxLen/\cur.size=cap/\br w F xs (cur.toList.take xs.length) aY:=by
 obtain⟨h1,af⟩:=(aQ.dj rfl).1 h;have aB:cZ v=[v]:=by
  cases v<;>first|rfl|(cases h1)
 rw[aB,az]at af;rcases af with⟨ay,a,a_⟩|⟨b,cap,cur,mS,fr,aY,ay,a_,b1,dn,dc,gH,iq,k2,nT,_⟩
 .left;exact⟨ay,a,by simpa using a_⟩
 .right;exact⟨b,cap,cur,mS,fr,aY,by simpa using ay,a_,b1,dn,dc,gH,by simpa using iq,by simpa using nT⟩
theorem aW.shorter {C:cu} {f:FuncId} (he:One e enc) (wk:∀args w,(callFunc f args).run C.P w= .ok (.enter f args) w) (xs cq zs:List α) (hl:(cq++zs).length=xs.length)
  (a7:∀a w,Calls C.P f #[.slice a 0 0] w λex aJ=>ex= .returned (.slice a 0 0)/\aJ=w)
  (h1:∀(w:World) (b cap:Nat),Holds enc w b 0 xs.toArray->b<w.heap.size->xs.length<=cap->cap<=maxLen->Calls C.P f #[.slice (some ⟨b,0,none⟩) xs.length cap] w λex aJ=>
   ex= .returned (.slice (some ⟨b,0,none⟩) cq.length cap)/\∃n os,aJ=Sort.grow (putRow enc (Sort.ahead w n) b 0 (cq++zs).toArray) os):
  aW C f [.ag 1 (xs.map e)] (.ag 1 (cq.map e)) [.hole]:=by
 intro w F X S vs pF aR;obtain⟨v,rfl⟩:∃v,vs=[v]:=by
  match vs,pF with
  |[v],_=>exact⟨v,rfl⟩
 rcases YU (aR.eg 0)with⟨aq,a,aB⟩|⟨b,cap,cur,mS,fr,aY,aB,cc,ab,wj,Cc,hm,hM,hb⟩
 .have aB:v= .slice a 0 0:=aB;have aq:xs=[]:=by simpa using aq
  subst aB aq;have hy:cq=[]:=by
   have b3:cq++zs=[]:=length_eq_zero_iff.1 hl;exact(append_eq_nil_iff.1 b3).1
  subst hy;refine .inl ⟨wk _ _,(a7 a w).mono ?_⟩;rintro ex aJ ⟨rfl,rfl⟩;refine⟨_,rfl,F,_,YT aR λu=>?_⟩;rcases u with _|_|u
  .exact .inr (.inr ⟨rfl,a,rfl⟩)
  .exact .inl rfl
  .exact .inl rfl
 .have aB:v= .slice (some ⟨b,0,none⟩) xs.length cap:=by rw[length_map]at aB;exact aB
  subst aB;simp only[length_map]at Cc hb;have hH:=YS ab wj (by omega) (Pa he _ _ _ hb);refine .inl ⟨wk _ _,(h1 w b cap hH (aR.fc 0 b cc) Cc hm).mono ?_⟩;rintro ex aJ ⟨rfl,n,os,hw⟩;refine⟨_,rfl,F,_,YQ (t:=0) he aR cc ab wj hM Cc hm hl hw rfl rfl ?_⟩;intro u hu;rcases u with _|_|u
  .exact(hu rfl).elim
  .exact .inl rfl
  .exact .inl rfl
end
theorem YV {α:Type} [DecidableEq α]:∀(p:Option α) (l:List α),(nS p l).length<=l.length
 |_,[]=>Nat.le_refl _
 |p,x::r=>by
  have:=YV (some x) r;simp only[nS];split<;>simp only[length_cons]<;>omega
theorem YW {α:Type} [Inhabited α] [DecidableEq α] (zs:List α):Lib.compact zs=nS none zs:=by
 have key:∀n i,i+n=zs.length->((range' i n).filter (Lib.keeps zs.toArray)).map (zs.toArray[·]!)=nS (if i=0 then none else some zs.toArray[i-1]!) (zs.drop i):=by
  intro n;induction n with
  |zero=>
   intro i aj;rw[drop_of_length_le (by omega)];rfl
  |succ n ih=>
   intro i aj;have eA:i<zs.length:=by omega
   have aq:zs.toArray[i]! =zs[i]:=by rw[getElem!_pos _ i (by simpa using eA)];simp
   rw[range'_succ,drop_eq_getElem_cons eA,filter_cons];have uq:=ih (i+1) (by omega);rw[if_neg (by omega),Nat.add_sub_cancel,aq]at uq;simp only[nS];by_cases a7:i=0
   .subst a7;rw[if_pos (by simp[Lib.keeps]),map_cons,uq,aq];simp
   .rw[if_neg a7];by_cases he:zs.toArray[i-1]! =zs[i]
    .rw[if_neg (by simp[Lib.keeps,a7,aq,he]),uq,if_pos (by rw[he])]
    .rw[if_pos (by simp only[Lib.keeps,aq];simp only[decide_eq_true_eq];exact .inr (λe=>he e.symm)),map_cons,uq,aq,if_neg (by simpa using he)]
 have:=key zs.length 0 (by omega);rw[if_pos rfl,drop_zero]at this;rw[<-this,Lib.compact,Lib.compactUpTo,range_eq_range']
theorem aW.below {C:cu} {f:FuncId} {zQ:aAk} {r:I} {v:Value} (ao:MT=false) (wk:∀args w,(callFunc f args).run C.P w= .ok (.enter f args) w) (a6:r.tree=true) (o2:eW r v) (hb:∀w F,az w F r (cZ v) (λ_=>False))
  (h:∀(w:World) (F X:Nat->Prop) (S:Nat->Nat->Prop) (vs:aAi),vs.length=zQ.length->ca w F X F S (gd zQ) (hW vs) w->Calls C.P f vs.toArray w λex aJ=>ex= .returned v/\RowKit.Below w.heap.size w aJ):aW C f zQ r []:=by
 intro w F X S vs hl aR;refine .inl ⟨wk _ _,(h w F X S vs hl aR).mono ?_⟩;rintro ex aJ ⟨rfl,ab⟩;refine⟨_,rfl,F,λ_ _=>False,?_⟩;exact {
  hL:=λ_ h=>h
  h9:=λ_ bC=>.inl bC
  fG:=λc au=>Nat.lt_of_lt_of_le (aR.fG c au) ab.size
  fc:=λ_ _ h=>h.elim
  gl:=λ_ _ h=>h.elim
  fT:=λ_ _ _ _ h=>h.elim
  eI:=λ_ _ h=>h.elim
  eg:=λu=>by
   rcases u with _|u
   .exact(aQ.dj a6).2 ⟨o2,hb _ _⟩
   .show aQ _ _ _ _ .hole _ _;rw[aQ];trivial
  old:=λc au _=>ab.block c au
  size:=ab.size
  os:=ab.os
  tape:=ab.tape
  output:=⟨ab.output,λd=>by rw[ao]at d;cases d⟩
  fU:=aR.fU}
theorem aW.strs {C:cu} {f:FuncId} {zQ:aAk} {b:aAc} (ao:MT=false) (wk:∀args w,(callFunc f args).run C.P w= .ok (.enter f args) w)
  (h:∀(w:World) (F X:Nat->Prop) (S:Nat->Nat->Prop) (vs:aAi),vs.length=zQ.length->ca w F X F S (gd zQ) (hW vs) w->Calls C.P f vs.toArray w λex aJ=>ex= .returned (.string ⟨⟨b⟩⟩)/\RowKit.Below w.heap.size w aJ):aW C f zQ (.str b) []:=
 aW.below (v:=.string ⟨⟨b⟩⟩) ao wk rfl rfl (λ_ _=>by simp only[cZ,jd];rw[az]) h
theorem ajb {w:World} {F X:Nat->Prop} {S:Nat->Nat->Prop} {s:an} {aD:Nat->Value} (h:ca w F X F S s aD w) {u:Nat} {xs:aAb} {e:aAc->I} (he:One e λx=>.string ⟨⟨x⟩⟩) (hu:s u= .slice (xs.map e)):
  (xs=[]/\∃a c,aD u= .slice a 0 c)\/∃b o cap,aD u= .slice (some ⟨b,o,none⟩) xs.length cap/\b<w.heap.size/\xs.length<=cap/\∀(j:Nat) x,xs[j]? =some x->w.cell? ⟨b,o+j,none⟩=some (.string ⟨⟨x⟩⟩):=by
 have ae:=h.eg u;rw[hu]at ae;obtain⟨h1,af⟩:=(aQ.dj rfl).1 ae;have aB:cZ (aD u)=[aD u]:=by
  revert h1;cases aD u<;>intro h1<;>first|rfl|(cases h1)
 rw[aB,az]at af;rcases af with⟨ay,a,c,a_,_⟩|⟨b,o,cap,fo,sz,ay,a_,b1,dn,dc,gH,iq⟩
 .left;exact⟨by simpa using ay,a,c,by simpa using a_⟩
 .right;refine⟨b,o,cap,by simpa using ay,h.fG b a_,by simpa using b1,λj x aq=>?_⟩;have aK:=Pa he _ _ _ iq;refine gH j _ ?_;rw[aK,getElem?_map,aq];rfl
end Go.en
namespace Go.en
open Go Go.Lib
theorem ajh {w:World} {F:Nat->Prop} {s:an} {aD:Nat->Value} {g:FuncId} {v:Value} {S:Nat->Prop} (h:aQ w F s aD (.fn g []) v S):v= .func (.func g) #[] #[]:=by
 rw[aQ]at h;obtain⟨arr,bs,ab⟩:=h;rw[bs];cases hl:arr.toList with
 |nil=>rw[show arr= #[]from Array.toList_inj.1 (by simpa using hl)]
 |cons x r=>rw[hl,e7]at ab;cases ab
end Go.en
namespace Go.en
open List Option Go.IntKind Nat Or
open Go Go.Lib Go.Sort
theorem aW.aji {α:Type} [Inhabited α] {e:α->I} {enc:α->Value} {C:cu} {f g:FuncId} (he:One e enc) (wk:∀args w,(callFunc f args).run C.P w= .ok (.enter f args) w) (xs cq:List α) (hl:cq.length=xs.length)
  (a7:∀a w,Calls C.P f #[.slice a 0 0,.func (.func g) #[] #[]] w λex aJ=>ex= .returned (.tuple #[])/\aJ=w)
  (h1:∀(w:World) (b cap:Nat),Holds enc w b 0 xs.toArray->b<w.heap.size->Calls C.P f #[.slice (some ⟨b,0,none⟩) xs.length cap,.func (.func g) #[] #[]] w λex aJ=>
   ex= .returned (.tuple #[])/\∃n os,aJ=Sort.grow (putRow enc (Sort.ahead w n) b 0 cq.toArray) os):
  aW C f [.ag 1 (xs.map e),.fn g []] (.tuple []) [.ag 1 (cq.map e),.hole]:=by
 intro w F X S vs pF aR;obtain⟨v,v1,rfl⟩:∃v v1,vs=[v,v1]:=by
  match vs,pF with
  |[v,v1],_=>exact⟨v,v1,rfl⟩
 have zV:v1= .func (.func g) #[] #[]:=ajh (aR.eg 1);subst zV;rcases YU (aR.eg 0)with⟨aq,a,aB⟩|⟨b,cap,cur,mS,fr,aY,aB,cc,ab,wj,Cc,hm,hM,hb⟩
 .have aB:v= .slice a 0 0:=aB;have aq:xs=[]:=by simpa using aq
  subst aB aq;have hy:cq=[]:=length_eq_zero_iff.1 hl;subst hy;refine .inl ⟨wk _ _,(a7 a w).mono ?_⟩;rintro ex aJ ⟨rfl,rfl⟩;refine⟨_,rfl,F,_,YT aR λu=>?_⟩;rcases u with _|_|_|u
  .exact .inr (.inl ⟨rfl,rfl⟩)
  .exact .inr (.inr ⟨rfl,a,rfl⟩)
  .exact .inl rfl
  .exact .inl rfl
 .have aB:v= .slice (some ⟨b,0,none⟩) xs.length cap:=by rw[length_map]at aB;exact aB
  subst aB;simp only[length_map]at Cc hb;have hH:=YS ab wj (by omega) (Pa he _ _ _ hb);refine .inl ⟨wk _ _,(h1 w b cap hH (aR.fc 0 b cc)).mono ?_⟩;rintro ex aJ ⟨rfl,n,os,hw⟩;refine⟨_,rfl,F,_,YQ (zs:=[]) (t:=1) he aR cc ab wj hM Cc hm (by simpa using hl) (by simpa using hw) rfl (by show Value.slice _ _ _=_;rw[hl]) ?_⟩;intro u hu;rcases u with _|_|_|u
  .exact .inr ⟨rfl,rfl⟩
  .exact(hu rfl).elim
  .exact .inl rfl
  .exact .inl rfl
end Go.en
namespace Go.Proofs.YtafceioodemeeaaGreatDoor
open Go.en
def T:TypeId->hC
 |1=>⟨.fn,1,8,.hole⟩
 |2=>⟨.int .i64,1,8,(.int .i64 0)⟩
 |3=>⟨.int .i64,1,8,(.int .i64 0)⟩
 |4=>⟨.bool,1,1,(.bool false)⟩
 |5=>⟨.int .u8,1,1,(.int .u8 0)⟩
 |9=>⟨.str,1,16,(.str [])⟩
 |22=>⟨.slice 86,1,24,.bf⟩
 |23=>⟨.slice 89,1,24,.bf⟩
 |24=>⟨.slice 92,1,24,.bf⟩
 |25=>⟨.slice 9,1,24,.bf⟩
 |27=>⟨.struct [(22,0),(23,1),(24,2),(25,3),(25,4)],5,120,(.agg [.bf,.bf,.bf,.bf,.bf])⟩
 |28=>⟨.slice 54,1,24,.bf⟩
 |33=>⟨.slice 99,1,24,.bf⟩
 |34=>⟨.slice 101,1,24,.bf⟩
 |35=>⟨.slice 103,1,24,.bf⟩
 |37=>⟨.struct [(33,0),(34,1),(35,2),(25,3),(25,4)],5,120,(.agg [.bf,.bf,.bf,.bf,.bf])⟩
 |39=>⟨.slice 65,1,24,.bf⟩
 |52=>⟨.slice 2,1,24,.bf⟩
 |54=>⟨.struct [(2,0),(2,1),(52,2)],3,40,(.agg [(.int .i64 0),(.int .i64 0),.bf])⟩
 |56=>⟨.ptr 37,1,8,.et⟩
 |57=>⟨.slice 39,1,24,.bf⟩
 |65=>⟨.struct [(2,0),(2,1),(52,2)],3,40,(.agg [(.int .i64 0),(.int .i64 0),.bf])⟩
 |67=>⟨.slice 71,1,24,.bf⟩
 |71=>⟨.struct [(9,0),(2,1),(2,2),(39,3)],4,56,(.agg [(.str []),(.int .i64 0),(.int .i64 0),.bf])⟩
 |73=>⟨.fn,1,8,.hole⟩
 |77=>⟨.fn,1,8,.hole⟩
 |84=>⟨.slice 166,1,24,.bf⟩
 |86=>⟨.struct [(9,0),(2,1),(84,2)],3,48,(.agg [(.str []),(.int .i64 0),.bf])⟩
 |89=>⟨.struct [(2,0),(52,1)],2,32,(.agg [(.int .i64 0),.bf])⟩
 |92=>⟨.struct [(9,0),(9,1),(9,2)],3,48,(.agg [(.str []),(.str []),(.str [])])⟩
 |97=>⟨.slice 161,1,24,.bf⟩
 |99=>⟨.struct [(9,0),(2,1),(97,2)],3,48,(.agg [(.str []),(.int .i64 0),.bf])⟩
 |101=>⟨.struct [(2,0),(52,1)],2,32,(.agg [(.int .i64 0),.bf])⟩
 |103=>⟨.struct [(9,0),(9,1),(9,2)],3,48,(.agg [(.str []),(.str []),(.str [])])⟩
 |110=>⟨.int .u64,1,8,(.int .u64 0)⟩
 |116=>⟨.slice 5,1,24,.bf⟩
 |120=>⟨.ptr 65,1,8,.et⟩
 |121=>⟨.slice 122,1,24,.bf⟩
 |122=>⟨.slice 126,1,24,.bf⟩
 |126=>⟨.struct [(9,0),(65,1)],4,56,(.agg [(.str []),(.agg [(.int .i64 0),(.int .i64 0),.bf])])⟩
 |136=>⟨.fn,1,8,.hole⟩
 |137=>⟨.ptr 140,1,8,.et⟩
 |138=>⟨.map 9 4,1,8,(.ck .ky)⟩
 |140=>⟨.struct [(37,0),(39,5),(67,6),(138,7)],8,176,(.agg [(.agg [.bf,.bf,.bf,.bf,.bf]),.bf,.bf,(.ck .ky)])⟩
 |147=>⟨.int .i64,1,8,(.int .i64 0)⟩
 |155=>⟨.int .u32,1,4,(.int .u32 0)⟩
 |156=>⟨.fn,1,8,.hole⟩
 |157=>⟨.int .u64,1,8,(.int .u64 0)⟩
 |159=>⟨.slice 212,1,24,.bf⟩
 |160=>⟨.struct [(2,0),(2,1),(9,2),(159,3)],4,56,(.agg [(.int .i64 0),(.int .i64 0),(.str []),.bf])⟩
 |161=>⟨.struct [(2,0),(2,1),(9,2),(159,3)],4,56,(.agg [(.int .i64 0),(.int .i64 0),(.str []),.bf])⟩
 |164=>⟨.slice 251,1,24,.bf⟩
 |166=>⟨.struct [(2,0),(2,1),(9,2),(164,3)],4,56,(.agg [(.int .i64 0),(.int .i64 0),(.str []),.bf])⟩
 |172=>⟨.ptr 99,1,8,.et⟩
 |181=>⟨.fn,1,8,.hole⟩
 |185=>⟨.struct [(2,0),(4,1)],2,16,(.agg [(.int .i64 0),(.bool false)])⟩
 |186=>⟨.slice 185,1,24,.bf⟩
 |188=>⟨.ptr 190,1,8,.et⟩
 |190=>⟨.struct [(33,0),(122,1),(138,2)],3,56,(.agg [.bf,.bf,(.ck .ky)])⟩
 |200=>⟨.fn,1,8,.hole⟩
 |208=>⟨.ptr 3,1,8,.et⟩
 |212=>⟨.slice 249,1,24,.bf⟩
 |227=>⟨.fn,1,8,.hole⟩
 |229=>⟨.fn,1,8,.hole⟩
 |230=>⟨.fn,1,8,.hole⟩
 |233=>⟨.fn,1,8,.hole⟩
 |243=>⟨.fn,1,8,.hole⟩
 |249=>⟨.struct [(2,0),(2,1)],2,16,(.agg [(.int .i64 0),(.int .i64 0)])⟩
 |251=>⟨.slice 288,1,24,.bf⟩
 |256=>⟨.ptr 161,1,8,.et⟩
 |265=>⟨.ptr 298,1,8,.et⟩
 |288=>⟨.struct [(2,0),(2,1)],2,16,(.agg [(.int .i64 0),(.int .i64 0)])⟩
 |290=>⟨.fn,1,8,.hole⟩
 |296=>⟨.slice 265,1,24,.bf⟩
 |298=>⟨.struct [(249,0),(296,2)],3,40,(.agg [(.agg [(.int .i64 0),(.int .i64 0)]),.bf])⟩
 |310=>⟨.ptr 249,1,8,.et⟩
 |314=>⟨.fn,1,8,.hole⟩
 |_=>⟨.other,0,0,.hole⟩
theorem ajj:∀t,UJ Tryz.prog t (T t):=by
 intro t;unfold T;split
 .exact .inr ⟨Tryz.t1,_,_,by kernel_rfl,rfl,rfl,rfl,(λcs h=>by cases h),Tryz.underlying1,trivial⟩
 .exact .inr ⟨Tryz.t2,_,_,by kernel_rfl,rfl,rfl,rfl,(λcs h=>by cases h;rfl),Tryz.underlying2,rfl⟩
 .exact .inr ⟨Tryz.t3,_,_,by kernel_rfl,rfl,rfl,rfl,(λcs h=>by cases h;rfl),Tryz.underlying3,rfl⟩
 .exact .inr ⟨Tryz.t4,_,_,by kernel_rfl,rfl,rfl,rfl,(λcs h=>by cases h;rfl),Tryz.underlying4,trivial⟩
 .exact .inr ⟨Tryz.t5,_,_,by kernel_rfl,rfl,rfl,rfl,(λcs h=>by cases h;rfl),Tryz.underlying5,rfl⟩
 .exact .inr ⟨Tryz.t9,_,_,by kernel_rfl,rfl,rfl,rfl,(λcs h=>by cases h;rfl),Tryz.underlying9,trivial⟩
 .exact .inr ⟨Tryz.t22,_,_,by kernel_rfl,rfl,rfl,rfl,(λcs h=>by cases h;rfl),Tryz.underlying22,rfl⟩
 .exact .inr ⟨Tryz.t23,_,_,by kernel_rfl,rfl,rfl,rfl,(λcs h=>by cases h;rfl),Tryz.underlying23,rfl⟩
 .exact .inr ⟨Tryz.t24,_,_,by kernel_rfl,rfl,rfl,rfl,(λcs h=>by cases h;rfl),Tryz.underlying24,rfl⟩
 .exact .inr ⟨Tryz.t25,_,_,by kernel_rfl,rfl,rfl,rfl,(λcs h=>by cases h;rfl),Tryz.underlying25,rfl⟩
 .exact .inr ⟨Tryz.t27,_,_,by kernel_rfl,rfl,rfl,rfl,(λcs h=>by cases h;rfl),Tryz.underlying27,rfl⟩
 .exact .inr ⟨Tryz.t28,_,_,by kernel_rfl,rfl,rfl,rfl,(λcs h=>by cases h;rfl),Tryz.underlying28,rfl⟩
 .exact .inr ⟨Tryz.t33,_,_,by kernel_rfl,rfl,rfl,rfl,(λcs h=>by cases h;rfl),Tryz.underlying33,rfl⟩
 .exact .inr ⟨Tryz.t34,_,_,by kernel_rfl,rfl,rfl,rfl,(λcs h=>by cases h;rfl),Tryz.underlying34,rfl⟩
 .exact .inr ⟨Tryz.t35,_,_,by kernel_rfl,rfl,rfl,rfl,(λcs h=>by cases h;rfl),Tryz.underlying35,rfl⟩
 .exact .inr ⟨Tryz.t37,_,_,by kernel_rfl,rfl,rfl,rfl,(λcs h=>by cases h;rfl),Tryz.underlying37,rfl⟩
 .exact .inr ⟨Tryz.t39,_,_,by kernel_rfl,rfl,rfl,rfl,(λcs h=>by cases h;rfl),Tryz.underlying39,rfl⟩
 .exact .inr ⟨Tryz.t52,_,_,by kernel_rfl,rfl,rfl,rfl,(λcs h=>by cases h;rfl),Tryz.underlying52,rfl⟩
 .exact .inr ⟨Tryz.t54,_,_,by kernel_rfl,rfl,rfl,rfl,(λcs h=>by cases h;rfl),Tryz.underlying54,rfl⟩
 .exact .inr ⟨Tryz.t56,_,_,by kernel_rfl,rfl,rfl,rfl,(λcs h=>by cases h;rfl),Tryz.underlying56,rfl⟩
 .exact .inr ⟨Tryz.t57,_,_,by kernel_rfl,rfl,rfl,rfl,(λcs h=>by cases h;rfl),Tryz.underlying57,rfl⟩
 .exact .inr ⟨Tryz.t65,_,_,by kernel_rfl,rfl,rfl,rfl,(λcs h=>by cases h;rfl),Tryz.underlying65,rfl⟩
 .exact .inr ⟨Tryz.t67,_,_,by kernel_rfl,rfl,rfl,rfl,(λcs h=>by cases h;rfl),Tryz.underlying67,rfl⟩
 .exact .inr ⟨Tryz.t71,_,_,by kernel_rfl,rfl,rfl,rfl,(λcs h=>by cases h;rfl),Tryz.underlying71,rfl⟩
 .exact .inr ⟨Tryz.t73,_,_,by kernel_rfl,rfl,rfl,rfl,(λcs h=>by cases h),Tryz.underlying73,trivial⟩
 .exact .inr ⟨Tryz.t77,_,_,by kernel_rfl,rfl,rfl,rfl,(λcs h=>by cases h),Tryz.underlying77,trivial⟩
 .exact .inr ⟨Tryz.t84,_,_,by kernel_rfl,rfl,rfl,rfl,(λcs h=>by cases h;rfl),Tryz.underlying84,rfl⟩
 .exact .inr ⟨Tryz.t86,_,_,by kernel_rfl,rfl,rfl,rfl,(λcs h=>by cases h;rfl),Tryz.underlying86,rfl⟩
 .exact .inr ⟨Tryz.t89,_,_,by kernel_rfl,rfl,rfl,rfl,(λcs h=>by cases h;rfl),Tryz.underlying89,rfl⟩
 .exact .inr ⟨Tryz.t92,_,_,by kernel_rfl,rfl,rfl,rfl,(λcs h=>by cases h;rfl),Tryz.underlying92,rfl⟩
 .exact .inr ⟨Tryz.t97,_,_,by kernel_rfl,rfl,rfl,rfl,(λcs h=>by cases h;rfl),Tryz.underlying97,rfl⟩
 .exact .inr ⟨Tryz.t99,_,_,by kernel_rfl,rfl,rfl,rfl,(λcs h=>by cases h;rfl),Tryz.underlying99,rfl⟩
 .exact .inr ⟨Tryz.t101,_,_,by kernel_rfl,rfl,rfl,rfl,(λcs h=>by cases h;rfl),Tryz.underlying101,rfl⟩
 .exact .inr ⟨Tryz.t103,_,_,by kernel_rfl,rfl,rfl,rfl,(λcs h=>by cases h;rfl),Tryz.underlying103,rfl⟩
 .exact .inr ⟨Tryz.t110,_,_,by kernel_rfl,rfl,rfl,rfl,(λcs h=>by cases h;rfl),Tryz.underlying110,rfl⟩
 .exact .inr ⟨Tryz.t116,_,_,by kernel_rfl,rfl,rfl,rfl,(λcs h=>by cases h;rfl),Tryz.underlying116,rfl⟩
 .exact .inr ⟨Tryz.t120,_,_,by kernel_rfl,rfl,rfl,rfl,(λcs h=>by cases h;rfl),Tryz.underlying120,rfl⟩
 .exact .inr ⟨Tryz.t121,_,_,by kernel_rfl,rfl,rfl,rfl,(λcs h=>by cases h;rfl),Tryz.underlying121,rfl⟩
 .exact .inr ⟨Tryz.t122,_,_,by kernel_rfl,rfl,rfl,rfl,(λcs h=>by cases h;rfl),Tryz.underlying122,rfl⟩
 .exact .inr ⟨Tryz.t126,_,_,by kernel_rfl,rfl,rfl,rfl,(λcs h=>by cases h;rfl),Tryz.underlying126,rfl⟩
 .exact .inr ⟨Tryz.t136,_,_,by kernel_rfl,rfl,rfl,rfl,(λcs h=>by cases h),Tryz.underlying136,trivial⟩
 .exact .inr ⟨Tryz.t137,_,_,by kernel_rfl,rfl,rfl,rfl,(λcs h=>by cases h;rfl),Tryz.underlying137,rfl⟩
 .exact .inr ⟨Tryz.t138,_,_,by kernel_rfl,rfl,rfl,rfl,(λcs h=>by cases h;rfl),Tryz.underlying138,⟨rfl,rfl⟩⟩
 .exact .inr ⟨Tryz.t140,_,_,by kernel_rfl,rfl,rfl,rfl,(λcs h=>by cases h;rfl),Tryz.underlying140,rfl⟩
 .exact .inr ⟨Tryz.t147,_,_,by kernel_rfl,rfl,rfl,rfl,(λcs h=>by cases h;rfl),Tryz.underlying147,rfl⟩
 .exact .inr ⟨Tryz.t155,_,_,by kernel_rfl,rfl,rfl,rfl,(λcs h=>by cases h;rfl),Tryz.underlying155,rfl⟩
 .exact .inr ⟨Tryz.t156,_,_,by kernel_rfl,rfl,rfl,rfl,(λcs h=>by cases h),Tryz.underlying156,trivial⟩
 .exact .inr ⟨Tryz.t157,_,_,by kernel_rfl,rfl,rfl,rfl,(λcs h=>by cases h;rfl),Tryz.underlying157,rfl⟩
 .exact .inr ⟨Tryz.t159,_,_,by kernel_rfl,rfl,rfl,rfl,(λcs h=>by cases h;rfl),Tryz.underlying159,rfl⟩
 .exact .inr ⟨Tryz.t160,_,_,by kernel_rfl,rfl,rfl,rfl,(λcs h=>by cases h;rfl),Tryz.underlying160,rfl⟩
 .exact .inr ⟨Tryz.t161,_,_,by kernel_rfl,rfl,rfl,rfl,(λcs h=>by cases h;rfl),Tryz.underlying161,rfl⟩
 .exact .inr ⟨Tryz.t164,_,_,by kernel_rfl,rfl,rfl,rfl,(λcs h=>by cases h;rfl),Tryz.underlying164,rfl⟩
 .exact .inr ⟨Tryz.t166,_,_,by kernel_rfl,rfl,rfl,rfl,(λcs h=>by cases h;rfl),Tryz.underlying166,rfl⟩
 .exact .inr ⟨Tryz.t172,_,_,by kernel_rfl,rfl,rfl,rfl,(λcs h=>by cases h;rfl),Tryz.underlying172,rfl⟩
 .exact .inr ⟨Tryz.t181,_,_,by kernel_rfl,rfl,rfl,rfl,(λcs h=>by cases h),Tryz.underlying181,trivial⟩
 .exact .inr ⟨Tryz.t185,_,_,by kernel_rfl,rfl,rfl,rfl,(λcs h=>by cases h;rfl),Tryz.underlying185,rfl⟩
 .exact .inr ⟨Tryz.t186,_,_,by kernel_rfl,rfl,rfl,rfl,(λcs h=>by cases h;rfl),Tryz.underlying186,rfl⟩
 .exact .inr ⟨Tryz.t188,_,_,by kernel_rfl,rfl,rfl,rfl,(λcs h=>by cases h;rfl),Tryz.underlying188,rfl⟩
 .exact .inr ⟨Tryz.t190,_,_,by kernel_rfl,rfl,rfl,rfl,(λcs h=>by cases h;rfl),Tryz.underlying190,rfl⟩
 .exact .inr ⟨Tryz.t200,_,_,by kernel_rfl,rfl,rfl,rfl,(λcs h=>by cases h),Tryz.underlying200,trivial⟩
 .exact .inr ⟨Tryz.t208,_,_,by kernel_rfl,rfl,rfl,rfl,(λcs h=>by cases h;rfl),Tryz.underlying208,rfl⟩
 .exact .inr ⟨Tryz.t212,_,_,by kernel_rfl,rfl,rfl,rfl,(λcs h=>by cases h;rfl),Tryz.underlying212,rfl⟩
 .exact .inr ⟨Tryz.t227,_,_,by kernel_rfl,rfl,rfl,rfl,(λcs h=>by cases h),Tryz.underlying227,trivial⟩
 .exact .inr ⟨Tryz.t229,_,_,by kernel_rfl,rfl,rfl,rfl,(λcs h=>by cases h),Tryz.underlying229,trivial⟩
 .exact .inr ⟨Tryz.t230,_,_,by kernel_rfl,rfl,rfl,rfl,(λcs h=>by cases h),Tryz.underlying230,trivial⟩
 .exact .inr ⟨Tryz.t233,_,_,by kernel_rfl,rfl,rfl,rfl,(λcs h=>by cases h),Tryz.underlying233,trivial⟩
 .exact .inr ⟨Tryz.t243,_,_,by kernel_rfl,rfl,rfl,rfl,(λcs h=>by cases h),Tryz.underlying243,trivial⟩
 .exact .inr ⟨Tryz.t249,_,_,by kernel_rfl,rfl,rfl,rfl,(λcs h=>by cases h;rfl),Tryz.underlying249,rfl⟩
 .exact .inr ⟨Tryz.t251,_,_,by kernel_rfl,rfl,rfl,rfl,(λcs h=>by cases h;rfl),Tryz.underlying251,rfl⟩
 .exact .inr ⟨Tryz.t256,_,_,by kernel_rfl,rfl,rfl,rfl,(λcs h=>by cases h;rfl),Tryz.underlying256,rfl⟩
 .exact .inr ⟨Tryz.t265,_,_,by kernel_rfl,rfl,rfl,rfl,(λcs h=>by cases h;rfl),Tryz.underlying265,rfl⟩
 .exact .inr ⟨Tryz.t288,_,_,by kernel_rfl,rfl,rfl,rfl,(λcs h=>by cases h;rfl),Tryz.underlying288,rfl⟩
 .exact .inr ⟨Tryz.t290,_,_,by kernel_rfl,rfl,rfl,rfl,(λcs h=>by cases h),Tryz.underlying290,trivial⟩
 .exact .inr ⟨Tryz.t296,_,_,by kernel_rfl,rfl,rfl,rfl,(λcs h=>by cases h;rfl),Tryz.underlying296,rfl⟩
 .exact .inr ⟨Tryz.t298,_,_,by kernel_rfl,rfl,rfl,rfl,(λcs h=>by cases h;rfl),Tryz.underlying298,rfl⟩
 .exact .inr ⟨Tryz.t310,_,_,by kernel_rfl,rfl,rfl,rfl,(λcs h=>by cases h;rfl),Tryz.underlying310,rfl⟩
 .exact .inr ⟨Tryz.t314,_,_,by kernel_rfl,rfl,rfl,rfl,(λcs h=>by cases h),Tryz.underlying314,trivial⟩
 .exact .inl ⟨_,_,_,_,rfl,rfl⟩
noncomputable def ai:cu:=⟨Tryz.prog,T,λ_=>[]⟩
theorem Pd:ai.Ok:=⟨ajj,by kernel_rfl⟩
theorem ayt:ai.T 1=⟨.fn,1,8,.hole⟩:=rfl
theorem ajk:ai.T 2=⟨.int .i64,1,8,(.int .i64 0)⟩:=rfl
theorem ajl:ai.T 3=⟨.int .i64,1,8,(.int .i64 0)⟩:=rfl
theorem ajm:ai.T 4=⟨.bool,1,1,(.bool false)⟩:=rfl
theorem ajn:ai.T 5=⟨.int .u8,1,1,(.int .u8 0)⟩:=rfl
theorem ajo:ai.T 9=⟨.str,1,16,(.str [])⟩:=rfl
theorem ajp:ai.T 22=⟨.slice 86,1,24,.bf⟩:=rfl
theorem ajq:ai.T 23=⟨.slice 89,1,24,.bf⟩:=rfl
theorem ajr:ai.T 24=⟨.slice 92,1,24,.bf⟩:=rfl
theorem ajs:ai.T 25=⟨.slice 9,1,24,.bf⟩:=rfl
theorem ajt:ai.T 27=⟨.struct [(22,0),(23,1),(24,2),(25,3),(25,4)],5,120,(.agg [.bf,.bf,.bf,.bf,.bf])⟩:=rfl
theorem aju:ai.T 28=⟨.slice 54,1,24,.bf⟩:=rfl
theorem ajv:ai.T 33=⟨.slice 99,1,24,.bf⟩:=rfl
theorem ajw:ai.T 34=⟨.slice 101,1,24,.bf⟩:=rfl
theorem ajx:ai.T 35=⟨.slice 103,1,24,.bf⟩:=rfl
theorem ajy:ai.T 37=⟨.struct [(33,0),(34,1),(35,2),(25,3),(25,4)],5,120,(.agg [.bf,.bf,.bf,.bf,.bf])⟩:=rfl
theorem ajz:ai.T 39=⟨.slice 65,1,24,.bf⟩:=rfl
theorem ajA:ai.T 52=⟨.slice 2,1,24,.bf⟩:=rfl
theorem ajB:ai.T 54=⟨.struct [(2,0),(2,1),(52,2)],3,40,(.agg [(.int .i64 0),(.int .i64 0),.bf])⟩:=rfl
theorem ayu:ai.T 56=⟨.ptr 37,1,8,.et⟩:=rfl
theorem ajC:ai.T 57=⟨.slice 39,1,24,.bf⟩:=rfl
theorem ajD:ai.T 65=⟨.struct [(2,0),(2,1),(52,2)],3,40,(.agg [(.int .i64 0),(.int .i64 0),.bf])⟩:=rfl
theorem ajE:ai.T 67=⟨.slice 71,1,24,.bf⟩:=rfl
theorem ajF:ai.T 71=⟨.struct [(9,0),(2,1),(2,2),(39,3)],4,56,(.agg [(.str []),(.int .i64 0),(.int .i64 0),.bf])⟩:=rfl
theorem ayv:ai.T 73=⟨.fn,1,8,.hole⟩:=rfl
theorem ayw:ai.T 77=⟨.fn,1,8,.hole⟩:=rfl
theorem ajG:ai.T 84=⟨.slice 166,1,24,.bf⟩:=rfl
theorem ajH:ai.T 86=⟨.struct [(9,0),(2,1),(84,2)],3,48,(.agg [(.str []),(.int .i64 0),.bf])⟩:=rfl
theorem ajI:ai.T 89=⟨.struct [(2,0),(52,1)],2,32,(.agg [(.int .i64 0),.bf])⟩:=rfl
theorem ajJ:ai.T 92=⟨.struct [(9,0),(9,1),(9,2)],3,48,(.agg [(.str []),(.str []),(.str [])])⟩:=rfl
theorem ajK:ai.T 97=⟨.slice 161,1,24,.bf⟩:=rfl
theorem ajL:ai.T 99=⟨.struct [(9,0),(2,1),(97,2)],3,48,(.agg [(.str []),(.int .i64 0),.bf])⟩:=rfl
theorem ajM:ai.T 101=⟨.struct [(2,0),(52,1)],2,32,(.agg [(.int .i64 0),.bf])⟩:=rfl
theorem ajN:ai.T 103=⟨.struct [(9,0),(9,1),(9,2)],3,48,(.agg [(.str []),(.str []),(.str [])])⟩:=rfl
theorem ayx:ai.T 110=⟨.int .u64,1,8,(.int .u64 0)⟩:=rfl
theorem ajO:ai.T 116=⟨.slice 5,1,24,.bf⟩:=rfl
theorem ayy:ai.T 120=⟨.ptr 65,1,8,.et⟩:=rfl
theorem ajP:ai.T 121=⟨.slice 122,1,24,.bf⟩:=rfl
theorem ajQ:ai.T 122=⟨.slice 126,1,24,.bf⟩:=rfl
theorem ajR:ai.T 126=⟨.struct [(9,0),(65,1)],4,56,(.agg [(.str []),(.agg [(.int .i64 0),(.int .i64 0),.bf])])⟩:=rfl
theorem ayz:ai.T 136=⟨.fn,1,8,.hole⟩:=rfl
theorem ayA:ai.T 137=⟨.ptr 140,1,8,.et⟩:=rfl
theorem ajS:ai.T 138=⟨.map 9 4,1,8,(.ck .ky)⟩:=rfl
theorem ajT:ai.T 140=⟨.struct [(37,0),(39,5),(67,6),(138,7)],8,176,(.agg [(.agg [.bf,.bf,.bf,.bf,.bf]),.bf,.bf,(.ck .ky)])⟩:=rfl
theorem ayB:ai.T 147=⟨.int .i64,1,8,(.int .i64 0)⟩:=rfl
theorem ayC:ai.T 155=⟨.int .u32,1,4,(.int .u32 0)⟩:=rfl
theorem ayD:ai.T 156=⟨.fn,1,8,.hole⟩:=rfl
theorem ayE:ai.T 157=⟨.int .u64,1,8,(.int .u64 0)⟩:=rfl
theorem ajU:ai.T 159=⟨.slice 212,1,24,.bf⟩:=rfl
theorem ayF:ai.T 160=⟨.struct [(2,0),(2,1),(9,2),(159,3)],4,56,(.agg [(.int .i64 0),(.int .i64 0),(.str []),.bf])⟩:=rfl
theorem ajV:ai.T 161=⟨.struct [(2,0),(2,1),(9,2),(159,3)],4,56,(.agg [(.int .i64 0),(.int .i64 0),(.str []),.bf])⟩:=rfl
theorem ajW:ai.T 164=⟨.slice 251,1,24,.bf⟩:=rfl
theorem ajX:ai.T 166=⟨.struct [(2,0),(2,1),(9,2),(164,3)],4,56,(.agg [(.int .i64 0),(.int .i64 0),(.str []),.bf])⟩:=rfl
theorem ayG:ai.T 172=⟨.ptr 99,1,8,.et⟩:=rfl
theorem ayH:ai.T 181=⟨.fn,1,8,.hole⟩:=rfl
theorem ajY:ai.T 185=⟨.struct [(2,0),(4,1)],2,16,(.agg [(.int .i64 0),(.bool false)])⟩:=rfl
theorem ajZ:ai.T 186=⟨.slice 185,1,24,.bf⟩:=rfl
theorem ayI:ai.T 188=⟨.ptr 190,1,8,.et⟩:=rfl
theorem aj0:ai.T 190=⟨.struct [(33,0),(122,1),(138,2)],3,56,(.agg [.bf,.bf,(.ck .ky)])⟩:=rfl
theorem ayJ:ai.T 200=⟨.fn,1,8,.hole⟩:=rfl
theorem ayK:ai.T 208=⟨.ptr 3,1,8,.et⟩:=rfl
theorem aj1:ai.T 212=⟨.slice 249,1,24,.bf⟩:=rfl
theorem ayL:ai.T 227=⟨.fn,1,8,.hole⟩:=rfl
theorem ayM:ai.T 229=⟨.fn,1,8,.hole⟩:=rfl
theorem aj2:ai.T 230=⟨.fn,1,8,.hole⟩:=rfl
theorem ayN:ai.T 233=⟨.fn,1,8,.hole⟩:=rfl
theorem ayO:ai.T 243=⟨.fn,1,8,.hole⟩:=rfl
theorem aj3:ai.T 249=⟨.struct [(2,0),(2,1)],2,16,(.agg [(.int .i64 0),(.int .i64 0)])⟩:=rfl
theorem aj4:ai.T 251=⟨.slice 288,1,24,.bf⟩:=rfl
theorem ayP:ai.T 256=⟨.ptr 161,1,8,.et⟩:=rfl
theorem aj5:ai.T 265=⟨.ptr 298,1,8,.et⟩:=rfl
theorem aj6:ai.T 288=⟨.struct [(2,0),(2,1)],2,16,(.agg [(.int .i64 0),(.int .i64 0)])⟩:=rfl
theorem ayQ:ai.T 290=⟨.fn,1,8,.hole⟩:=rfl
theorem aj7:ai.T 296=⟨.slice 265,1,24,.bf⟩:=rfl
theorem aj8:ai.T 298=⟨.struct [(249,0),(296,2)],3,40,(.agg [(.agg [(.int .i64 0),(.int .i64 0)]),.bf])⟩:=rfl
theorem ayR:ai.T 310=⟨.ptr 249,1,8,.et⟩:=rfl
theorem ayS:ai.T 314=⟨.fn,1,8,.hole⟩:=rfl
end Go.Proofs.YtafceioodemeeaaGreatDoor
namespace Go.en
open List Go.IntKind Nat Or
def pM (C:cu) (f:FuncId) (m k:Nat) (zQ:aAk) (r:I) (outs:aAk):Prop:=
 ∀(w:World) (F X:Nat->Prop) (S:Nat->Nat->Prop) (vs:aAi),vs.length=zQ.length->
  (∃b ty fr,vs.getD k undef= .pointer (some ⟨b,0,none⟩)/\w.heap[b]? =some (.cells #[.func (.func f) #[] (vs.drop m).toArray] ty fr)/\F b/\¬X b)->
  ca w F X F S (gd zQ) (hW vs) w->
  qU C.P f vs.toArray w λv aJ=>∃cg aY,ca w F X cg aY (gd (r::outs)) (hW (v::vs)) aJ
section
variable {C:cu} {w0 w:World} {F0 X F cg:Nat->Prop} {S aY:Nat->Nat->Prop} {n:Fr} {ρ:Nat->Value} {s aC:an} {aD kf:Nat->Value} {a:Act} {av:I} {Q:Exit->Act->World->Prop} {aJ:World}
theorem ca.base (h:ca w0 F0 X F S s aD w):ca w F (λb=>∃u,S u b) F S s aD w where
 hL:=λ_ h=>h
 h9:=λ_ h=>.inl h
 fG:=h.fG
 fc:=h.fc
 gl:=h.gl
 fT:=h.fT
 eI:=λu b ab=>.inl ⟨u,ab⟩
 eg:=h.eg
 old:=λ_ _ _=>rfl
 size:=Nat.le_refl _
 os:=rfl
 tape:=rfl
 output:=Out.refl _
 fU:=h.fU.next h.size h.old λb ⟨u,hu⟩=>h.eI u b hu
theorem ca.X4 (h:ca w0 F0 X F S s aD w) (bL:ca w F (λb=>∃u,S u b) cg aY aC kf aJ):ca w0 F0 X cg aY aC kf aJ where
 hL:=λb ab=>bL.hL b (h.hL b ab)
 h9:=λb ab=>by
  rcases bL.h9 b ab with ab|⟨u,ab⟩|ab
  .exact h.h9 b ab
  .exact .inr (h.eI u b ab)
  .exact .inr (.inr (Nat.le_trans h.size ab))
 fG:=bL.fG
 fc:=bL.fc
 gl:=bL.gl
 fT:=bL.fT
 eI:=λu b ab=>by
  rcases bL.eI u b ab with⟨u,ab⟩|ab
  .exact h.eI u b ab
  .exact .inr (Nat.le_trans h.size ab)
 eg:=bL.eg
 old:=λb ab me=>by
  refine(bL.old b (Nat.lt_of_lt_of_le ab h.size) λ⟨u,hu⟩=>?_).trans (h.old b ab me);rcases h.eI u b hu with aq|aq
  .exact me aq
  .omega
 size:=Nat.le_trans h.size bL.size
 os:=bL.os.trans h.os
 tape:=bL.tape.trans h.tape
 output:=bL.output.trans h.output
 fU:=h.fU
inductive uD:aAk->aAk->Prop
 |nil:uD [] []
 |eq {a:I} {zQ mb:aAk}:a.ae=[]->uD zQ mb->uD (a::zQ) (a::mb)
 |wd {a b:I} {zQ mb:aAk}:fB a b->a.tree=true->b.ae=[]->uD zQ mb->uD (a::zQ) (b::mb)
theorem uD.get:∀{zQ mb:aAk},uD zQ mb->∀p k,p∈num k mb->p.2.ae=[]/\∃a,zQ[p.1-k]? =some a/\k<=p.1/\(p.2=a\/(a.tree=true/\fB a p.2))
 |_,_,.nil,p,k,aw=>by simp[num]at aw
 |_,_,.eq (a:=a) h hw,p,k,aw=>by
  simp only[num,mem_cons]at aw;rcases aw with rfl|aw
  .exact⟨h,a,by simp,Nat.le_refl _,.inl rfl⟩
  .obtain⟨h1,x,af,ay,a_⟩:=hw.get p (k+1) aw;refine⟨h1,x,?_,by omega,a_⟩;rw[show p.1-k=(p.1-(k+1))+1 by omega,getElem?_cons_succ];exact af
 |_,_,.wd (a:=a) h a6 ab hw,p,k,aw=>by
  simp only[num,mem_cons]at aw;rcases aw with rfl|aw
  .exact⟨ab,a,by simp,Nat.le_refl _,.inr ⟨a6,h⟩⟩
  .obtain⟨h1,x,af,ay,a_⟩:=hw.get p (k+1) aw;refine⟨h1,x,?_,by omega,a_⟩;rw[show p.1-k=(p.1-(k+1))+1 by omega,getElem?_cons_succ];exact af
theorem uD.len:∀{zQ mb:aAk},uD zQ mb->mb.length=zQ.length
 |_,_,.nil=>rfl
 |_,_,.eq _ hw=>by simp[hw.len]
 |_,_,.wd _ _ _ hw=>by simp[hw.len]
theorem aW.ahT {f:FuncId} {zQ mb:aAk} {r:I} {outs:aAk} (h:aW C f mb r outs) (hw:uD zQ mb):aW C f zQ r outs:=by
 intro w F X S vs hl aR;have ahU:x3 (gd zQ) (num 0 mb):=λp aw=>by
  obtain⟨h1,a,af,_,a_⟩:=hw.get p 0 aw;have e:gd zQ p.1=a:=by simp[gd,List.getD,show zQ[p.1]? =some a from af]
  rw[e];rcases a_ with a_|⟨a6,a_⟩
  .exact .inl a_
  .refine .inr ⟨a6,a_,λdi fj=>.inl ?_⟩;rw[(hw.get di 0 fj).1];simp
 obtain⟨cg,aY,af⟩:=aR.Ws ahU;rw[<-Jg]at af;exact(h w cg _ aY vs (hl.trans hw.len.symm) af.base).mono λv aJ ⟨oB,eG,ay⟩=>⟨oB,eG,af.X4 ay⟩
theorem X5 (C:cu) (K:an->Prop):∀(rs pre post:List cB) (s:an),oE C s rs K->kT C (pre++(rs++post)) s ((range rs.length).map (·+pre.length)) K:=by
 intro rs;induction rs with
 |nil=>intro pre post s h;exact h
 |cons r rs ih=>
  intro pre post s h;rw[length_cons,range_succ_eq_map,map_cons,List.map_map];simp only[kT,Nat.zero_add];rw[getElem?_append_right (Nat.le_refl _)];simp only[Nat.sub_self,cons_append,getElem?_cons_zero];have key:∀s1,oE C s1 rs K->kT C (pre++r::(rs++post)) s1 ((range rs.length).map ((λx=>x+pre.length)∘succ)) K:=by
   intro s1 h1;have:=ih (pre++[r]) post s1 h1;simp only[append_assoc,singleton_append,length_append,length_singleton]at this;have e:((λx=>x+pre.length)∘succ)=λx=>x+(pre.length+1):=by funext x;simp;omega
   rw[e];exact this
  simp only[oE]at h;exact Jc h key
theorem ahV (ki:a.defers=[]) (eX:a.tmps.size=n.n) (iL:∀i∈n.fx,a.tmps.getD i undef=ρ i) (aR:ca w0 F0 X F S s (λt=>a.tmps.getD t undef) w)
  {o:Oper} {d0 k:Nat} {args:List bA} {g:FuncId} {caps:aAk} {arr:Array Value} {ps:List dq} {r:I} (dd:dv o.op=some (.call (.t d0) args)) (ao:oC n o.dst=true)
  (aB:a.tmps.getD d0 undef= .func (.func g) #[] arr) (au:e7 w F s (λt=>a.tmps.getD t undef) caps arr.toList) (hX:I.e6 caps=true)
  (ahW:∃b ty fr,(arr.toList).getD k undef= .pointer (some ⟨b,0,none⟩)/\w.heap[b]? =some (.cells #[.func (.func g) #[] arr] ty fr)/\F b) (FH:k<arr.size)
  (af:ps.map (·.a)=args.map (bx s)++caps) (ay:∀p∈ps,p.ok s) (a_:jH ps=true) (b1:pM C g args.length (args.length+k) (ps.map (·.d)) r (ps.map (·.o))) (dn:r.res=true)
  (dc:lU ps=true->r.c8=true/\∀p∈ps,p.o.c8=true) {K:an->Prop} {next:Act->World->Prop} (gH:K (fin (iK (fM s ps) ps) o.dst r))
  (aV:∀aC dF aJ,K aC->Rel w0 F0 X n ρ aC dF aJ->next dF aJ):o.wp C.P a w next Q:=by
 obtain⟨dst,op,ty,pos,after,guard⟩:=o;simp only at dd ao gH;cases op with
 |call c=>
  obtain⟨callee,qb,argTypes⟩:=c;simp only[dv]at dd;split at dd
  .split at dd
   .rename_i E_ _ _ af5 xs bI sZ;simp only[Option.some.injEq,e2.call.injEq]at dd;obtain⟨rfl,rfl⟩:=dd;have ER:E_= .tmp d0:=by
     cases E_ with
     |tmp t=>simp only[eH,Option.some.injEq,bA.t.injEq]at bI;rw[bI]
     |const v=>simp only[eH,Option.map_eq_some_iff]at bI;obtain⟨c,_,bI⟩:=bI;cases bI
     |func g=>simp[eH]at bI
     |global g=>simp[eH]at bI
    subst ER;have Fa:execOp a.eval {dst,op:=.call {callee:=.value (.tmp d0),args:=qb,argTypes},type:=ty,pos,after,guard}=callFunc g ((qb.toList.map a.eval++arr.toList).toArray):=by
     have:a.eval (.tmp d0)= .func (.func g) #[] arr:=aB;simp only[execOp,resolve,this,Deferred.ofValue,pure_bind,invoke];congr 1;apply Array.ext';simp
    unfold Oper.wp;rw[Fa];have hlen:(qb.toList.map a.eval).length=xs.length:=by
     have:=congrArg length (zE sZ);simpa using this
    have Fb:e7 w F s (λt=>a.tmps.getD t undef) (xs.map (bx s)++caps) (qb.toList.map a.eval++arr.toList):=Wg (I2 aR (λ_=>rfl) _ _ (zE sZ)) au;rw[<-af]at Fb;obtain⟨fO,l2⟩:=Wh Fb;have fL:∀d∈xs.map (bx s)++caps,d.plain=true:=by
     intro d ao;rcases mem_append.1 ao with ao|ao
     .obtain⟨x,aq,rfl⟩:=mem_map.1 ao;exact UK s x λav e=>by
       subst e;have hm:=zE sZ;have:some (bA.c av)∈xs.map some:=mem_map.2 ⟨_,aq,rfl⟩;rw[<-hm]at this;obtain⟨o,_,bG⟩:=mem_map.1 this;cases o with
       |const v=>simp only[eH,Option.map_eq_some_iff]at bG;obtain⟨c,au,e⟩:=bG;cases e;exact M1 au
       |tmp n=>simp[eH]at bG
       |func g=>simp[eH]at bG
       |global g=>simp[eH]at bG
     .obtain⟨k,hk⟩:=getElem?_of_mem ao;exact Iy hX hk
    have NY:=Wf (C:=C) aR (ps:=ps) (vs:=qb.toList.map a.eval++arr.toList) (f:=g) (r:=r) (by simpa using fO)
     (λi p v aw aB=>⟨fL p.a (by rw[<-af];exact mem_map.2 ⟨p,mem_of_getElem? aw,rfl⟩),l2 i p.a v (by simp[aw]) aB⟩) ay a_
     (λFc nC fb bC me aw=>by
      refine b1 w Fc nC fb _ (by rw[<-fO];simp) ?_ aw;obtain⟨b,JE,fr,aK,aT,aU⟩:=ahW;refine⟨b,JE,fr,?_,?_,bC b aU,λaq=>by obtain⟨u,hu⟩:=me b aq;exact aR.gl u b hu aU⟩
      .rw[getD_eq_getElem?_getD,getElem?_append_right (by omega),hlen,Nat.add_sub_cancel_left,<-getD_eq_getElem?_getD];exact aK
      .rw[aT,<-hlen,drop_left])
     dn dc
    rcases NY with⟨ef,bg⟩|⟨v,aJ,ef,cg,aY,bg,dt⟩
    .rw[ef,Oper.upon_enter];refine Calls.mono bg ?_;rintro e aJ ⟨v,rfl,cg,aY,bV,cn⟩;exact aV _ _ _ gH (Rel.put ki eX iL bV cn.1 ao)
    .rw[ef,Oper.upon_value];exact aV _ _ _ gH (Rel.put ki eX iL bg dt.1 ao)
   .cases dd
  .split at dd
   .simp only[Option.map_eq_some_iff]at dd;obtain⟨_,_,dd⟩:=dd;cases dd
   .cases dd
  .split at dd
   .simp only[Option.map_eq_some_iff]at dd;obtain⟨_,_,dd⟩:=dd;cases dd
   .cases dd
  iterate 3
   .split at dd
    .split at dd<;>cases dd
    .cases dd
  .cases dd
 |makeFunc fn first cs=>
  cases fn<;>simp only[dv]at dd<;>first|(cases dd;done)|(split at dd<;>simp at dd)
 |slice T x fP aj fp=>
  cases fp<;>simp only[dv]at dd<;>first|(cases dd;done)|(split at dd<;>simp at dd)
 |makeMap T r=>cases r<;>simp only[dv]at dd<;>simp at dd
 |lookup T x i c=>cases c<;>simp only[dv]at dd<;>first|(cases dd;done)|(split at dd<;>simp at dd)
 |_=>simp only[dv]at dd<;>first|(cases dd;done)|(simp at dd;done)|(split at dd<;>simp at dd)
theorem ahX {op:Op} {T:TypeId} {x:bA} (h:dv op=some (.ld T x)):∃y,op= .load T y/\eH y=some x:=by
 cases op with
 |load N0 y=>
  simp only[dv,Option.map_eq_some_iff]at h;obtain⟨cV,aq,h⟩:=h;cases h;exact⟨y,rfl,aq⟩
 |call c=>
  obtain⟨callee,qb,argTypes⟩:=c;simp only[dv]at h;split at h<;>(try split at h)<;>(try split at h)<;>(try simp[Option.map_eq_some_iff]at h)
 |makeFunc fn first cs=>
  cases fn<;>simp only[dv]at h<;>first|(cases h;done)|(split at h<;>simp at h)
 |slice T x fP aj fp=>
  cases fp<;>simp only[dv]at h<;>first|(cases h;done)|(split at h<;>simp at h)
 |makeMap T r=>cases r<;>simp only[dv]at h<;>simp at h
 |lookup T x i c=>cases c<;>simp only[dv]at h<;>first|(cases h;done)|(split at h<;>simp at h)
 |_=>simp only[dv]at h<;>first|(cases h;done)|(simp at h;done)|(split at h<;>simp at h)
theorem JF {y:Operand} {k:Nat} (h:eH y=some (.t k)):y= .tmp k:=by
 cases y with
 |tmp t=>simp only[eH,Option.some.injEq,bA.t.injEq]at h;rw[h]
 |const v=>simp only[eH,Option.map_eq_some_iff]at h;obtain⟨c,_,h⟩:=h;cases h
 |func g=>simp[eH]at h
 |global g=>simp[eH]at h
def uE (k:Nat) (s:an) (j:Nat):I:=if j=k then .ref .hole else ud j (s j)
theorem ahY {aD:Nat->Value} {b k:Nat} {v:Value} {ty:TypeId} {fr:Nat×Nat} (aR:ca w0 F0 X F S s aD w) (hk:aD k= .pointer (some ⟨b,0,none⟩)) (ab:F b) (au:w.heap[b]? =some (.cells #[v] ty fr)) (h1:Value.hq v=true):
  ∀cs:aAf,e7 w F s aD (cs.map (uE k s)) (cs.map aD)/\I.e6 (cs.map (uE k s))=true:=by
 intro cs;induction cs with
 |nil=>exact⟨by rw[map_nil,map_nil,e7],rfl⟩
 |cons j cs ih=>
  simp only[map_cons];have bE:aQ w F s aD (uE k s j) (aD j) (λ_=>False)/\(uE k s j).plain=true:=by
   unfold uE;split
   .rename_i e;subst e;rw[hk];refine⟨(aQ.dj rfl).2 ⟨rfl,?_⟩,rfl⟩;rw[az];refine⟨b,0,[v],rfl,ab,?_,?_⟩
    .intro i c aj;cases i with
     |zero=>simp at aj;subst aj;simp[World.cell?,au]
     |succ i=>simp at aj
    .rw[az];exact⟨v,h1,rfl⟩
   .unfold ud;split
    .rename_i aw;exact⟨aQ.nothing aw (aR.eg j),aw⟩
    .rename_i aw;refine⟨?_,rfl⟩;rw[aQ];intro d ao aw;simp only[I.sub,Option.some.injEq]at ao;subst ao;have a6:(s j).tree=true:=by
      cases ae:s j<;>first|rfl|(rw[ae]at aw;simp[I.plain]at aw)
     exact⟨_,none,rfl,rfl,((aQ.dj a6).1 (aR.eg j)).1⟩
  refine⟨?_,?_⟩
  .rw[e7];exact⟨_,_,rfl,bE.1,ih.1⟩
  .simp only[I.e6,bE.2,ih.2,Bool.and_self]
theorem X6 (bU:C.Ok) {id:Nat} {ops:Array Oper} {T:TypeId} {k k0 d0:Nat} {m rest:List cB} {args:List bA} {d1:Option Nat} {g:FuncId} {cs:aAf} {b:Nat} {ty:TypeId} {fr:Nat×Nat} {K:an->Prop}
  (xZ:ux n ops ops.toList=some ((⟨some d0,.ld T (.t k),none⟩::(m++⟨d1,.call (.t d0) args,none⟩::rest):List cB).map cB.un))
  (kP:(C.T T).flat=true) (hm:∀r∈m,∀d,r.dst=some d->d≠d0/\d∉cs) (nW:d0∉cs) (B8:cs[k0]? =some k)
  (ki:a.defers=[]) (eX:a.tmps.size=n.n) (iL:∀i∈n.fx,a.tmps.getD i undef=ρ i) (aR:ca w0 F0 X F S s (λt=>a.tmps.getD t undef) w)
  (ab:F b) (hk:a.tmps.getD k undef= .pointer (some ⟨b,0,none⟩)) (IK:w.heap[b]? =some (.cells #[.func (.func g) #[] (cs.map λj=>a.tmps.getD j undef).toArray] ty fr))
  (h:oE C (fin s (some d0) .hole) m λs1=>∃ps r,ps.map (·.a)=args.map (bx s1)++cs.map (uE k s1)/\(∀p∈ps,p.ok s1)/\jH ps=true/\
   pM C g args.length (args.length+k0) (ps.map (·.d)) r (ps.map (·.o))/\r.res=true/\(lU ps=true->r.c8=true/\∀p∈ps,p.o.c8=true)/\oE C (fin (iK (fM s1 ps) ps) d1 r) rest K)
  (aV:∀aC dF aJ,K aC->Rel w0 F0 X n ρ aC dF aJ->Q .normal dF aJ):(Code.region id ops false).wp C.P Q a w:=by
 obtain⟨hl,rQ⟩:=Ff xZ;have OP:∀(i:Nat) (r:cB),(⟨some d0,.ld T (.t k),none⟩::(m++⟨d1,.call (.t d0) args,none⟩::rest):List cB)[i]? =some r->∃o,ops[i]? =some o/\uw n ops o=some r.un:=by
  intro i r aj;have eA:i<ops.toList.length:=by
   rw[hl,length_map];exact(List.getElem?_eq_some_iff.1 aj).1
  obtain⟨jf,h1,af⟩:=rQ i _ (getElem?_eq_getElem eA);rw[getElem?_map,aj]at h1;simp only[Option.map_some,Option.some.injEq]at h1;exact⟨_,by rw[<-Array.getElem?_toList];exact getElem?_eq_getElem eA,by rw[h1];exact af⟩
 have B9:∀{r:cB} {o:Oper},r.guard=none->uw n ops o=some r.un->r.dst=o.dst/\o.guard=none/\s3 o.op=r.b4.base/\oC n o.dst=true:=by
  intro r o hg h;unfold uw at h;split at h
  .rename_i ao;split at h
   .rename_i X7 iY;simp only[cB.un,Option.some.injEq,cB.mk.injEq]at h;obtain⟨aK,aT,aU⟩:=h;refine⟨aK.symm,?_,aT,ao⟩;rw[aU,hg]at iY;cases bG:o.guard with
    |none=>rfl
    |some N4=>
     rw[bG]at iY;simp only[E8]at iY;split at iY<;>cases iY
   .cases h
  .cases h
 have ahZ:ops.size=m.length+rest.length+2:=by
  have:ops.toList.length=ops.size:=by simp
  rw[<-this,hl];simp;omega
 have ah0:range ops.size=0::((range m.length).map (·+1)++((m.length+1)::(range rest.length).map (·+(m.length+2)))):=by
  rw[ahZ,show m.length+rest.length+2=(m.length+rest.length+1)+1 from rfl,range_succ_eq_map];congr 1;rw[show m.length+rest.length+1=m.length+(rest.length+1) by omega,range_add,map_append,range_succ_eq_map];simp only[List.map_map,map_cons,Nat.add_zero];congr 1;congr 1;apply map_congr_left;intro x _;simp;omega
 obtain⟨yj,ah1,nE⟩:=OP 0 _ rfl;obtain⟨gP,gA,je,jG⟩:=B9 rfl nE;change s3 yj.op= .ld T (.t k)at je;have FI:dv yj.op=some (.ld T (.t k)):=by
  rcases rP je with h|h
  .cases h
  .exact h
 obtain⟨y,hy,ah2⟩:=ahX FI;have:=JF ah2;subst this;let j0:Value:=.func (.func g) #[] (cs.map λj=>a.tmps.getD j undef).toArray
 have mz:Rd w b 0 [j0]:=by
  intro i c aj;cases i with
  |zero=>simp at aj;subst aj;simp[World.cell?,IK,j0]
  |succ i=>simp at aj
 refine wp_region ?_;rw[ah0];simp only[wpOps,ah1];show(if Region.wanted yj (yielded ops a.tmps)=true then yj.wp C.P a w _ Q\/(yj.asks C.P a w/\LetsOut Q)else _);rw[if_pos (I8 gA)];left;have Fa:(execOp a.eval yj).run C.P w= .ok (.value j0) w:=by
  obtain⟨dst,op,ty,pos,after,guard⟩:=yj;simp only at hy;subst hy;have:a.eval (.tmp k)= .pointer (some ⟨b,0,none⟩):=hk;simp[execOp,this,Instr.loadAt,Instr.sureAddr,UQ bU kP mz]
 unfold Oper.wp;rw[Fa,Oper.upon_value];have OQ:some d0=yj.dst:=gP;rw[<-OQ]at jG⊢;let J:Act:=a.put (some d0) j0
 let lV:Fr:=⟨n.n,d0::k::(cs++n.fx)⟩
 let ρ1:Nat->Value:=λt=>J.tmps.getD t undef
 have uF:k∈cs:=mem_of_getElem? B8;have um:=aR.base;have OR:Rel w F (λb=>∃u,S u b) ⟨n.n,[]⟩ ρ1 (fin s (some d0) .hole) J w:=
  Rel.put (n:=⟨n.n,[]⟩) ki eX (λi aj=>by cases aj) um (.inl ⟨rfl,by rw[aQ];trivial⟩) (by
   simp only[oC,Bool.and_eq_true,decide_eq_true_eq]at jG⊢;exact⟨jG.1,by simp⟩)
 have ah3:Rel w F (λb=>∃u,S u b) lV ρ1 (fin s (some d0) .hole) J w:=⟨OR.defers,OR.size,λi _=>rfl,OR.rel⟩
 have X8:∀t,t≠d0->ρ1 t=a.tmps.getD t undef:=by
  intro t a6;have:=congrFun (E9 (n:=n) (dst:=some d0) (a:=a) j0 eX jG).1 t;simp only[qL]at this;rw[lp _ _ a6]at this;exact this
 have ah4:ρ1 d0=j0:=by
  have:=congrFun (E9 (n:=n) (dst:=some d0) (a:=a) j0 eX jG).1 d0;simp only[qL]at this;rw[o0]at this;exact this
 have hw:=X5 C _ m [⟨some d0,.ld T (.t k),none⟩] (⟨d1,.call (.t d0) args,none⟩::rest) _ h;have mid:∀aC dF aJ,(∃ps r,ps.map (·.a)=args.map (bx aC)++cs.map (uE k aC)/\(∀p∈ps,p.ok aC)/\jH ps=true/\
   pM C g args.length (args.length+k0) (ps.map (·.d)) r (ps.map (·.o))/\r.res=true/\(lU ps=true->r.c8=true/\∀p∈ps,p.o.c8=true)/\oE C (fin (iK (fM aC ps) ps) d1 r) rest K)->
   Rel w F (λb=>∃u,S u b) lV ρ1 aC dF aJ->wpOps C.P ops Q ((m.length+1)::(range rest.length).map (·+(m.length+2))) dF aJ:=by
  rintro s2 a2 hR ⟨ps,r,aK,aT,aU,b_,cY,cv,cd⟩ ⟨g1,g2,g3,oB,eG,g4⟩;obtain⟨B_,ah5,mQ⟩:=OP (m.length+1) ⟨d1,.call (.t d0) args,none⟩ (by simp);obtain⟨gO,iX,kd,U3⟩:=B9 rfl mQ;simp only[wpOps,ah5];show(if Region.wanted B_ (yielded ops a2.tmps)=true then B_.wp C.P a2 hR _ Q\/(B_.asks C.P a2 hR/\LetsOut Q)else _);rw[if_pos (I8 iX)];left;change s3 B_.op= .call (.t d0) args at kd;have ah6:dv B_.op=some (.call (.t d0) args):=by
   rcases rP kd with h|h
   .cases h
   .exact h
  have X9:oB b:=g4.hL b ab;have X_:hR.heap[b]? =some (.cells #[j0] ty fr):=by
   rw[g4.old b (aR.fG b ab) (λ⟨u,hu⟩=>aR.gl u b hu ab)];exact IK
  have Ya:∀j∈cs,a2.tmps.getD j undef=a.tmps.getD j undef:=by
   intro j bE;rw[g3 j (by simp[lV,bE])];exact X8 j (λe=>nW (e▸bE))
  have py:a2.tmps.getD k undef= .pointer (some ⟨b,0,none⟩):=(Ya k uF).trans hk;have Yb:(cs.map λj=>a.tmps.getD j undef)=cs.map λj=>a2.tmps.getD j undef:=map_congr_left λj bE=>(Ya j bE).symm;obtain⟨c1,c2⟩:=ahY (k:=k) g4 py X9 X_ rfl cs;have Nq:∀aC dF aJ,oE C aC rest K->Rel w F (λb=>∃u,S u b) ⟨n.n,n.fx⟩ ρ aC dF aJ->wpOps C.P ops Q ((range rest.length).map (·+(m.length+2))) dF aJ:=by
   intro pI a3 qZ ay JG;have Jh:=X5 C K rest ((⟨some d0,.ld T (.t k),none⟩::m)++[⟨d1,.call (.t d0) args,none⟩]) [] pI ay;have:=N3 (Q:=Q) bU (ops:=ops) (ros:=((⟨some d0,.ld T (.t k),none⟩::m)++[⟨d1,.call (.t d0) args,none⟩])++(rest++[])) (l2:=[]) (K:=K) (λaC dF aJ nY fv=>by
     obtain⟨q0,z2,z3,ah7,Vd,z4⟩:=fv;exact aV aC dF aJ nY ⟨q0,z2,z3,ah7,Vd,aR.X4 z4⟩) ((range rest.length).map (·+(m.length+2))) (λi aj=>by
      have Fo:((⟨some d0,.ld T (.t k),none⟩::m)++[⟨d1,.call (.t d0) args,none⟩])++(rest++[])=(⟨some d0,.ld T (.t k),none⟩::(m++⟨d1,.call (.t d0) args,none⟩::rest):List cB):=by simp
      rw[Fo];refine⟨λnU=>?_,λo bG=>?_⟩
      .rw[List.getElem?_eq_none_iff];have:=Array.getElem?_eq_none_iff.1 nU;simp;omega
      .obtain⟨ak,k2,af⟩:=rQ i o (by simpa using bG);obtain⟨r,h1,rfl⟩:∃r,(⟨some d0,.ld T (.t k),none⟩::(m++⟨d1,.call (.t d0) args,none⟩::rest):List cB)[i]? =some r/\r.un=ak:=by
        rw[getElem?_map,Option.map_eq_some_iff]at k2;exact k2
       exact⟨r,h1,af⟩) pI a3 qZ (by
      have e:((⟨some d0,.ld T (.t k),none⟩::m)++[⟨d1,.call (.t d0) args,none⟩]:List cB).length=m.length+2:=by simp
      rw[e]at Jh;exact Jh) JG
   rwa [append_nil]at this
  have ah8:∀i∈n.fx,a2.tmps.getD i undef=ρ i:=by
   intro i aj;rw[g3 i (by simp[lV,aj]),X8 i (λe=>?_)]
   .exact iL i aj
   .simp only[oC,Bool.and_eq_true,Bool.not_eq_true',contains_eq_mem,decide_eq_false_iff_not]at jG;exact jG.2 (e▸aj)
  have FH:k0<cs.length:=(List.getElem?_eq_some_iff.1 B8).1;have ah9:B_.dst=d1:=gO.symm;exact ahV (n:=n) (ρ:=ρ) (K:=λaC=>oE C aC rest K) g1 g2 ah8 g4 ah6 U3
   (arr:=(cs.map λj=>a2.tmps.getD j undef).toArray) (k:=k0) (caps:=cs.map (uE k s2)) (g:=g) (ps:=ps) (r:=r)
   (by rw[g3 d0 (by simp[lV]),ah4];simp only[j0,Yb]) (by simpa using c1) c2
   ⟨b,ty,fr,by
     rw[getD_eq_getElem?_getD,getElem?_map,B8];exact py,by rw[X_];simp only[j0,Yb],X9⟩ (by simpa using FH)
   aK aT aU b_ cY cv (by rw[ah9];exact cd) Nq
 have:=N3 (Q:=Q) bU (ops:=ops) (ros:=[⟨some d0,.ld T (.t k),none⟩]++(m++⟨d1,.call (.t d0) args,none⟩::rest)) (l2:=(m.length+1)::(range rest.length).map (·+(m.length+2))) mid
  ((range m.length).map (·+1)) (λi aj=>by
    obtain⟨j,bE,rfl⟩:=mem_map.1 aj;have FJ:j<m.length:=mem_range.1 bE;refine⟨λnU=>?_,λo bG=>?_⟩
    .have:=Array.getElem?_eq_none_iff.1 nU;omega
    .obtain⟨qS,Fu,fZ⟩:=OP (j+1) m[j] (by
      simp only[getElem?_cons_succ];rw[getElem?_append_left FJ,getElem?_eq_getElem FJ])
     have heq:qS=o:=by rw[Fu]at bG;exact Option.some.inj bG
     subst heq;refine⟨m[j],by
      simp only[singleton_append,getElem?_cons_succ];rw[getElem?_append_left FJ,getElem?_eq_getElem FJ],?_⟩
     have ah_:=hm m[j] (getElem_mem FJ);unfold uw at fZ⊢;split at fZ
     .rename_i ao;rw[if_pos]
      .exact fZ
      .cases Yc:qS.dst with
       |none=>rfl
       |some d=>
        rw[Yc]at ao;simp only[oC,Bool.and_eq_true,decide_eq_true_eq,Bool.not_eq_true',contains_eq_mem,decide_eq_false_iff_not]at ao⊢;refine⟨ao.1,?_⟩;have I9:m[j].dst=some d:=by
         split at fZ
         .simp only[cB.un,Option.some.injEq,cB.mk.injEq]at fZ;rw[<-fZ.1,Yc]
         .cases fZ
        obtain⟨m1,m2⟩:=ah_ d I9;simp only[lV,mem_cons,mem_append,not_or];exact⟨m1,λe=>m2 (e▸uF),m2,ao.2⟩
     .cases fZ) (fin s (some d0) .hole) J w (by simpa using hw) ah3
 exact this
def Yd (C:cu) (f:FuncId) (k k0:Nat) (cs:aAf) (args:List bA) (d1:Option Nat) (rest:List cB) (keep:aAf) (P:aAj->Prop) (s1:an):Prop:=
 ∃ps r,ps.map (·.a)=args.map (bx s1)++cs.map (uE k s1)/\(∀p∈ps,p.ok s1)/\jH ps=true/\
  pM C f args.length (args.length+k0) (ps.map (·.d)) r (ps.map (·.o))/\r.res=true/\(lU ps=true->r.c8=true/\∀p∈ps,p.o.c8=true)/\
  dD C (fin (iK (fM s1 ps) ps) d1 r) rest none (λ_ s=>P (gK keep s))
def s_ (C:cu) (f:FuncId) (k k0 d0:Nat) (cs:aAf) (m:List cB) (args:List bA) (d1:Option Nat) (rest:List cB) (keep:aAf) (P:aAj->Prop) (s:an):Prop:=
 dD C (fin s (some d0) .hole) m none λ_ s1=>Yd C f k k0 cs args d1 rest keep P s1
def Ye (C:cu) (f:FuncId) (k k0 d0:Nat) (cs:aAf) (m:List cB) (args:List bA) (d1:Option Nat) (rest:List cB) (keep:aAf) (K:an->Prop) (s:an):Prop:=
 s_ C f k k0 d0 cs m args d1 rest keep (λl=>K (ar l)) s
def OS (f:Nat->Bool) (m:List cB):Bool:=m.all λr=>match r.dst with
 |none=>true
 |some d=>f d
theorem Yf {f:Nat->Bool} {m:List cB} (h:OS f m=true):∀r∈m,∀d,r.dst=some d->f d=true:=by
 intro r aR d ao;have:=List.all_eq_true.1 h r aR;rw[ao]at this;exact this
theorem Yg (k:aAf) (s:an):x3 s (gK k s):=by
 intro p aw;obtain⟨t,_,rfl⟩:=mem_map.1 aw;exact .inl rfl
def OT (C:cu) (f:FuncId) (k k0 d0:Nat) (cs:aAf) (m:List cB) (args:List bA) (d1:Option Nat) (rest:List cB) (keep:aAf):(Exit->an->Prop)->an->Prop:=
 λQ s=>Ye C f k k0 d0 cs m args d1 rest keep (Q .normal) s
def Yh (T:TypeId) (k d0:Nat) (m:List cB) (args:List bA) (d1:Option Nat) (rest:List cB):aA:=
 .eh (⟨some d0,.ld T (.t k),none⟩::(m++⟨d1,.call (.t d0) args,none⟩::rest)) none
theorem aia (vs:aAi):∀(m n:Nat),m+n=vs.length->vs.drop m=((range n).map (·+m)).map λj=>vs.getD j undef:=by
 intro m n h;apply ext_getElem?;intro i;rw[getElem?_drop,List.map_map,getElem?_map];by_cases aj:i<n
 .rw[getElem?_range aj,getElem?_eq_getElem (by omega)];simp only[Option.map_some,Function.comp];rw[getD_eq_getElem?_getD,getElem?_eq_getElem (by omega)];simp only[Option.getD_some,Option.some.injEq];congr 1;omega
 .rw[getElem?_eq_none (by omega),getElem?_eq_none (by simp;omega)];rfl
theorem JH {c:Code} {rs:List cB} (h:fQ n c=some (.eh rs none)):∃id ops,c= .region id ops false/\ux n ops ops.toList=some rs:=by
 cases c with
 |region id ops draw=>
  cases draw with
  |false=>
   simp only[fQ]at h;split at h
   .rename_i r h1;cases h;exact⟨id,ops,rfl,h1⟩
   .cases h
  |true=>
   simp only[fQ]at h;split at h
   .simp only[Option.map_eq_some_iff]at h;obtain⟨r,h1,af⟩:=h;cases af
   .cases h
 |seq a b=>simp only[fQ]at h;split at h<;>cases h
 |cond c a b=>simp only[fQ]at h;split at h<;>cases h
 |block id b=>simp only[fQ,Option.map_eq_some_iff]at h;obtain⟨r,h1,af⟩:=h;cases af
 |loop b=>simp only[fQ,Option.map_eq_some_iff]at h;obtain⟨r,h1,af⟩:=h;cases af
 |_=>simp[fQ]at h
def JI (C:cu) (f:FuncId) (fx:aAf) (aib m k:Nat) (T:(Exit->an->Prop)->an->Prop) (b:aA):Prop:=
 ∃(ty:TypeId) (k0 d0 q1:Nat) (jT:List cB) (args:List bA) (d1:Option Nat) (rest:List cB) (keep:aAf),
  T=OT C f k k0 d0 ((range q1).map (·+m)) jT args d1 rest keep/\b=Yh ty k d0 jT args d1 rest/\(C.T ty).flat=true/\OS (λd=>d !=d0&&decide (m+q1<=d)) jT=true/\decide (m+q1<=d0)=true/\
  decide (k0<q1)=true/\k=m+k0/\((range q1).all λj=>fx.contains (m+j))=true/\args.length=m/\m+q1=aib
theorem pM.of_wp (bU:C.Ok) {f:FuncId} {fn:Func} {c:Code} {eb:aA} {fx:aAf} {zQ outs:aAk} {r:I} {k m:Nat} (bI:C.P.funcs[f]? =some fn) (ab:fn.body=some c)
  (mF:(fn.name== "runtime.NumGoroutine")=false) (ae:fQ ⟨fn.ntmps,fx⟩ c=some eb.strip) (aV:zQ.length<=fn.ntmps)
  (hk:eb.qc (JI C f fx zQ.length m k))
  (h:∀Q:Exit->an->Prop,(∀s,eM (Ends C fx fn.results.toList r outs) s->Q .ret s)->(∀s,eM (Ends C fx fn.results.toList r outs) s->Q .normal s)->bn C eb Q (ar (num 0 zQ))):pM C f m k zQ r outs:=by
 rintro w F X S vs hl ⟨b,aic,fr,aK,aT,aU,b_⟩ aR;refine Ob (fx:=fx) bU bI ab mF aV hl aR λa hrel fe=>?_;refine N_ bU (H:=JI C f fx zQ.length m k) ?_ c (by rw[aA.N6];exact ae) (aA.Jb eb hk) (Jd eb ?_) hrel
 .rintro c T gI Q s J fw ⟨ty,k0,d0,q1,jT,args,d1,rest,keep,rfl,rfl,kP,hm,nW,JJ,hk,iL,hlen,ayj⟩ FI aid ⟨g1,g2,g3,zJ,cL,g4⟩;replace hm:∀r∈jT,∀d,r.dst=some d->d≠d0/\m+q1<=d:=λr aR d ao=>by
   have:=Yf hm r aR d ao;simpa using this
  replace nW:=of_decide_eq_true nW;replace JJ:=of_decide_eq_true JJ;replace iL:∀j,j<q1->m+j∈fx:=λj bE=>by
   have:=List.all_eq_true.1 iL j (mem_range.2 bE);simpa using this
  obtain⟨id,ops,rfl,xZ⟩:=JH FI;have Yi:∀j,j<q1->J.tmps.getD (j+m) undef=vs.getD (j+m) undef:=λj bE=>by
   rw[Nat.add_comm];exact g3 _ (iL j bE)
  have hM:((range q1).map (·+m)).map (λj=>J.tmps.getD j undef)=vs.drop m:=by
   rw[aia vs m q1 (by omega),List.map_map,List.map_map];apply map_congr_left;intro j bE;exact Yi j (mem_range.1 bE)
  refine X6 (Q:=vZ w F X ⟨fn.ntmps,fx⟩ (hW vs) Q) (K:=eM (Q .normal)) (b:=b) (ty:=aic) (fr:=fr) (g:=f) (k0:=k0) (cs:=(range q1).map (·+m)) bU xZ kP (λr aR d ao=>⟨(hm r aR d ao).1,λOU=>?_⟩) (λOU=>?_) ?_ g1 g2 g3 g4 (g4.hL b aU) ?_ ?_ ?_ (λaC dF aJ hk fv=>fv.eM hk)
  .obtain⟨j,bE,rfl⟩:=mem_map.1 OU;have:=(hm r aR _ ao).2;have:=mem_range.1 bE;omega
  .obtain⟨j,bE,e⟩:=mem_map.1 OU;have:=mem_range.1 bE;omega
  .rw[getElem?_map,getElem?_range JJ,hk];simp[Nat.add_comm]
  .rw[hk,Nat.add_comm,Yi k0 JJ,Nat.add_comm,<-hk];exact aK
  .rw[hM,g4.old b (aR.fG b aU) b_];exact aT
  .refine zM (λ_ s1=>?_) aid;rintro⟨ps,r,gP,gA,je,jG,rB,Fe,N2⟩;exact⟨ps,r,gP,gA,je,jG,rB,Fe,zM (λ_ s h=>.inr ⟨_,Yg _ _,h⟩) N2⟩
 .rw[Jg];exact h _ (λs h=>⟨.inr rfl,h⟩) (λs h=>⟨.inl rfl,h⟩)
theorem aie {Q:Exit->an->Prop} {l:aAj} {f:FuncId} {k k0 d0:Nat} {cs:aAf} {m:List cB} {args:List bA} {d1:Option Nat} {rest:List cB} {keep:aAf} {b:aA} (cr:aAj)
  (h:∀P:aAj->Prop,P cr->s_ C f k k0 d0 cs m args d1 rest keep P (ar l)) (hk:Q .normal (ar cr)):bn C (.kU (OT C f k k0 d0 cs m args d1 rest keep) b) Q (ar l):=
 λfk OV=>h (λl=>fk .normal (ar l)) (OV _ _ hk)
theorem Yj {l:aAj} {f:FuncId} {k k0:Nat} {cs:aAf} {args:List bA} {d1:Option Nat} {rest:List cB} {keep:aAf} {P:aAj->Prop} {r:I} (ps:List dq)
  (b1:pM C f args.length (args.length+k0) (ps.map (·.d)) r (ps.map (·.o))) (af:ps.map (·.a)=lx (ar l) args++cs.map (uE k (ar l))) (ay:s9 (ar l) ps) (a_:jH ps=true)
  (dn:r.res=true) (dc:lU ps=false\/(r.c8&&uC ps)=true)
  (hK:dD C (fin (iK (fM (ar l) ps) ps) d1 r) rest none (λ_ s=>P (gK keep s))):Yd C f k k0 cs args d1 rest keep P (ar l):=by
 refine⟨ps,r,by rw[af,B2],Jr ay,a_,b1,dn,?_,hK⟩;intro hl;rcases dc with dc|dc
 .rw[dc]at hl;cases hl
 .rw[Bool.and_eq_true]at dc;exact⟨dc.1,Js dc.2⟩
end
end Go.en
namespace Go.en
open List Go.IntKind Nat Or
section
variable {C:cu} {w0 w:World} {F0 X F cg:Nat->Prop} {S aY:Nat->Nat->Prop} {n:Fr} {ρ:Nat->Value} {s aC:an} {aD kf:Nat->Value} {a:Act} {av:I} {Q:Exit->Act->World->Prop} {aJ:World}
theorem ca.off (h:ca w0 F0 X F S s aD w) {b:Nat} (a7:w0.heap.size<=b) (bC:¬F b) (cc:∀u,¬S u b) (hw:∀c,c≠b->aJ.heap[c]? =w.heap[c]?) (ae:aJ.heap.size=w.heap.size)
  (h1:aJ.os=w.os) (af:aJ.tape=w.tape) (ay:Out aJ w):ca w0 F0 X F S s aD aJ where
 hL:=h.hL
 h9:=h.h9
 fG:=λc au=>by rw[ae];exact h.fG c au
 fc:=λt c au=>by rw[ae];exact h.fc t c au
 gl:=h.gl
 fT:=h.fT
 eI:=h.eI
 eg:=λt=>aQ.frame (Sx:=S) (λc au=>hw c (λe=>bC (e▸au))) (λ_ h=>h) (λx c au=>hw c (λe=>cc x (e▸au))) h.eg _ _ _ (λc au=>hw c (λe=>cc t (e▸au))) (h.eg t)
 old:=λc au me=>(hw c (by omega)).trans (h.old c au me)
 size:=by rw[ae];exact h.size
 os:=h1.trans h.os
 tape:=af.trans h.tape
 output:=ay.trans h.output
 fU:=h.fU
theorem ca.Yk (h:ca w0 F0 X F S s aD w) {t:Nat} {v:Value}:ca w0 F0 X F (g_ S t (λ_=>False)) (en.fin s (some t) .hole) (eo aD t v) w:=by
 have:en.fin s (some t) .hole=eo s t .hole:=by simp[en.fin,I.plain]
 rw[this];exact h.BA rfl (by rw[aQ];trivial)
theorem ca.aif (h:ca w0 F0 X F S s aD w) {b:Nat} (a7:w0.heap.size<=b) (ab:b<w.heap.size) (cc:∀u,¬S u b):ca w0 F0 X (λc=>F c\/c=b) S s aD w where
 hL:=λc au=>.inl (h.hL c au)
 h9:=λc au=>by
  rcases au with au|rfl
  .exact h.h9 c au
  .exact .inr (.inr a7)
 fG:=λc au=>by
  rcases au with au|rfl
  .exact h.fG c au
  .exact ab
 fc:=h.fc
 gl:=λt c au bI=>by
  rcases bI with bI|rfl
  .exact h.gl t c au bI
  .exact cc t au
 fT:=h.fT
 eI:=h.eI
 eg:=λt=>aQ.frame (λ_ _=>rfl) (λb ab=>.inl ab) (λ_ _ _=>rfl) h.eg _ _ _ (λ_ _=>rfl) (h.eg t)
 old:=h.old
 size:=h.size
 os:=h.os
 tape:=h.tape
 output:=h.output
 fU:=h.fU
theorem OW {c:Code} {x y:aA} (h:fQ n c=some (.seq x y)):∃a b,c= .seq a b/\fQ n a=some x/\fQ n b=some y:=by
 cases c with
 |seq a b=>
  simp only[fQ]at h;split at h
  .rename_i BL Wz aq hy;cases h;exact⟨a,b,rfl,aq,hy⟩
  .cases h
 |region id ops draw=>
  cases draw with
  |false=>simp only[fQ]at h;split at h<;>cases h
  |true=>
   simp only[fQ]at h;split at h
   .simp only[Option.map_eq_some_iff]at h;obtain⟨r,h1,af⟩:=h;cases af
   .cases h
 |cond c a b=>simp only[fQ]at h;split at h<;>cases h
 |block id b=>simp only[fQ,Option.map_eq_some_iff]at h;obtain⟨r,h1,af⟩:=h;cases af
 |loop b=>simp only[fQ,Option.map_eq_some_iff]at h;obtain⟨r,h1,af⟩:=h;cases af
 |_=>simp[fQ]at h
theorem B9 {ops:Array Oper} {r:cB} {o:Oper} (hg:r.guard=none) (h:uw n ops o=some r.un):r.dst=o.dst/\o.guard=none/\s3 o.op=r.b4.base/\oC n o.dst=true:=by
 unfold uw at h;split at h
 .rename_i ao;split at h
  .rename_i X7 iY;simp only[cB.un,Option.some.injEq,cB.mk.injEq]at h;obtain⟨aK,aT,aU⟩:=h;refine⟨aK.symm,?_,aT,ao⟩;rw[aU,hg]at iY;cases bG:o.guard with
   |none=>rfl
   |some N4=>
    rw[bG]at iY;simp only[E8]at iY;split at iY<;>cases iY
  .cases h
 .cases h
theorem OX {ops:Array Oper} {i:Nat} {o:Oper} {l:aAf} (bG:ops[i]? =some o) (hg:o.guard=none) (h:o.wp C.P a w (wpOps C.P ops Q l) Q):wpOps C.P ops Q (i::l) a w:=by
 simp only[wpOps,bG];show(if Region.wanted o (yielded ops a.tmps)=true then o.wp C.P a w _ Q\/(o.asks C.P a w/\LetsOut Q)else _);rw[if_pos (I8 hg)];exact .inl h
theorem aih {op:Op} {T:TypeId} (h:dv op=some (.mR T)):op= .alloc T:=by
 cases op with
 |alloc N0=>simp only[dv,Option.some.injEq,e2.mR.injEq]at h;rw[h]
 |call c=>
  obtain⟨callee,qb,argTypes⟩:=c;simp only[dv]at h;split at h<;>(try split at h)<;>(try split at h)<;>(try simp[Option.map_eq_some_iff]at h)
 |makeFunc fn first cs=>
  cases fn<;>simp only[dv]at h<;>first|(cases h;done)|(split at h<;>simp at h)
 |slice T x fP aj fp=>
  cases fp<;>simp only[dv]at h<;>first|(cases h;done)|(split at h<;>simp at h)
 |makeMap T r=>cases r<;>simp only[dv]at h<;>simp at h
 |lookup T x i c=>cases c<;>simp only[dv]at h<;>first|(cases h;done)|(split at h<;>simp at h)
 |_=>simp only[dv]at h<;>first|(cases h;done)|(simp at h;done)|(split at h<;>simp at h)
theorem aii {op:Op} {T:TypeId} {x y:bA} (h:dv op=some (.k3 T x y)):∃a b,op= .store T a b/\eH a=some x/\eH b=some y:=by
 cases op with
 |store N0 a b=>
  simp only[dv]at h;split at h
  .rename_i cV ox aq hy;simp only[Option.some.injEq,e2.k3.injEq]at h;obtain⟨rfl,rfl,rfl⟩:=h;exact⟨a,b,rfl,aq,hy⟩
  .cases h
 |call c=>
  obtain⟨callee,qb,argTypes⟩:=c;simp only[dv]at h;split at h<;>(try split at h)<;>(try split at h)<;>(try simp[Option.map_eq_some_iff]at h)
 |makeFunc fn first cs=>
  cases fn<;>simp only[dv]at h<;>first|(cases h;done)|(split at h<;>simp at h)
 |slice T x fP aj fp=>
  cases fp<;>simp only[dv]at h<;>first|(cases h;done)|(split at h<;>simp at h)
 |makeMap T r=>cases r<;>simp only[dv]at h<;>simp at h
 |lookup T x i c=>cases c<;>simp only[dv]at h<;>first|(cases h;done)|(split at h<;>simp at h)
 |_=>simp only[dv]at h<;>first|(cases h;done)|(simp at h;done)|(split at h<;>simp at h)
theorem aij {op:Op} {g:FuncId} {xs:List bA} (h:dv op=some (.p9 g xs)):∃cs:Array Operand,op= .makeFunc (.func g) #[] cs/\sV cs.toList=some xs:=by
 cases op with
 |makeFunc fn first cs=>
  cases fn with
  |func f=>
   simp only[dv]at h;split at h
   .rename_i NA;simp only[Option.map_eq_some_iff]at h;obtain⟨rJ,hM,h⟩:=h;cases h;have NB:first= #[]:=by simpa using NA
    subst NB;exact⟨cs,rfl,hM⟩
   .cases h
  |_=>simp[dv]at h
 |call c=>
  obtain⟨callee,qb,argTypes⟩:=c;simp only[dv]at h;split at h<;>(try split at h)<;>(try split at h)<;>(try simp[Option.map_eq_some_iff]at h)
 |slice T x fP aj fp=>
  cases fp<;>simp only[dv]at h<;>first|(cases h;done)|(split at h<;>simp at h)
 |makeMap T r=>cases r<;>simp only[dv]at h<;>simp at h
 |lookup T x i c=>cases c<;>simp only[dv]at h<;>first|(cases h;done)|(split at h<;>simp at h)
 |_=>simp only[dv]at h<;>first|(cases h;done)|(simp at h;done)|(split at h<;>simp at h)
theorem Yl:∀{os:List Operand} {cs:aAf},sV os=some (cs.map .t)->os=cs.map .tmp
 |[],cs,h=>by
  simp only[sV,Option.some.injEq]at h;cases cs with
  |nil=>rfl
  |cons c cs=>cases h
 |o::os,cs,h=>by
  simp only[sV]at h;split at h
  .rename_i x VD h1 af;simp only[Option.some.injEq]at h;cases cs with
   |nil=>cases h
   |cons c cs=>
    simp only[map_cons,cons.injEq]at h;obtain⟨rfl,rfl⟩:=h;rw[JF h1,Yl af];rfl
  .cases h
def OY (C:cu) (f:FuncId) (k k0 d0 d9:Nat) (cs:aAf) (m:List cB) (args:List bA) (d1:Option Nat) (keep:aAf) (oJ:aA):(Exit->an->Prop)->an->Prop:=
 λQ s=>Ye C f k k0 d0 cs m args d1 [] keep (bn C oJ Q) (fin (fin s (some k) .hole) (some d9) .hole)
def Ym (T:TypeId) (f:FuncId) (k d0 d9:Nat) (cs:aAf) (m:List cB) (args:List bA) (d1:Option Nat) (oJ:aA):aA:=
 .seq (.eh [⟨some k,.mR T,none⟩] none) (.seq (.eh [⟨some d9,.p9 f (cs.map .t),none⟩,⟨none,.k3 T (.t k) (.t d9),none⟩] none)
  (.seq (.eh (⟨some d0,.ld T (.t k),none⟩::(m++[⟨d1,.call (.t d0) args,none⟩])) none) oJ))
def FK (C:cu) (T:(Exit->an->Prop)->an->Prop) (b:aA):Prop:=
 ∃(ty:TypeId) (f:FuncId) (k k0 d0 d9:Nat) (cs:aAf) (m:List cB) (args:List bA) (d1:Option Nat) (keep:aAf) (oJ:aA),
  T=OY C f k k0 d0 d9 cs m args d1 keep oJ/\b=Ym ty f k d0 d9 cs m args d1 oJ.nD/\(C.T ty).flat=true/\(∃i z v,C.P.info? ty=some i/\i.size=1/\i.zero=some z/\z.cells= #[v]/\Value.hq v=true)/\
  OS (λd=>d !=d0&& !cs.contains d) m=true/\cs.contains d0=false/\cs[k0]? =some k/\cs.contains d9=false/\oJ.plain=true
theorem aik (bU:C.Ok) {c:Code} {T:(Exit->an->Prop)->an->Prop} {b:aA} {Q:Exit->an->Prop} (gv:FK C T b) (ae:fQ n c=some b.strip) (h:T Q s) (aR:Rel w0 F0 X n ρ s a w):
  c.wp C.P (vZ w0 F0 X n ρ Q) a w:=by
 obtain⟨ty,f,k,k0,d0,d9,cs,m,args,d1,keep,oJ,rfl,rfl,kP,⟨ayk,z,yk,Yn,ail,aim,qP,ayl⟩,hm,nW,B8,JK,fL⟩:=gv;replace hm:∀r∈m,∀d,r.dst=some d->d≠d0/\d∉cs:=λr aR d ao=>by
  have:=Yf hm r aR d ao;simpa using this
 replace nW:d0∉cs:=by simpa using nW
 replace JK:d9∉cs:=by simpa using JK
 have uF:k∈cs:=mem_of_getElem? B8;have ain:k≠d9:=λe=>JK (e▸uF);obtain⟨c2,xV,rfl,uB,fZ⟩:=OW ae;obtain⟨c3,aym,rfl,FL,aio⟩:=OW fZ;obtain⟨c4,c5,rfl,aip,aiq⟩:=OW aio;obtain⟨ayn,OZ,rfl,air⟩:=JH uB;obtain⟨ayo,Ca,rfl,ais⟩:=JH FL;obtain⟨ayp,ayq,rfl,ait⟩:=JH aip;obtain⟨ki,eX,iL,F,S,xO⟩:=aR;obtain⟨l2,g2⟩:=Ff air;have aT:OZ.size=1:=by simpa using l2
 obtain⟨k7,zK⟩:∃o,OZ[0]? =some o:=⟨OZ[0],by simp[aT]⟩
 obtain⟨bg,Jf,aiu⟩:=g2 0 k7 (by simpa using zK);simp only[map_cons,map_nil,getElem?_cons_zero,Option.some.injEq]at Jf;subst Jf;obtain⟨gP,gA,je,jG⟩:=B9 (r:=⟨some k,.mR ty,none⟩) rfl aiu;change s3 k7.op= .mR ty at je;have Yo:k7.op= .alloc ty:=by
  rcases rP je with h|h
  .cases h
  .exact aih h
 refine wp_seq (wp_region ?_);rw[aT];refine OX (C:=C) zK gA ?_;have aiv:(execOp a.eval k7).run C.P w= .ok (.value (.pointer (some ⟨w.heap.size,0,none⟩))) (w.alloc (.cells #[yk] ty)):=by
  obtain⟨dst,op,JE,pos,after,guard⟩:=k7;simp only at Yo;subst Yo;simp[execOp,Instr.alloc,zn Yn aim,newVar,newRow,newObj,Sem.run,qP]
 unfold Oper.wp;rw[aiv,Oper.upon_value];have OQ:some k=k7.dst:=gP;rw[<-OQ]at jG⊢;show Exit.then _ _ .normal _ _;have hold:∀b,b<w.heap.size->(w.alloc (.cells #[yk] ty)).heap[b]? =w.heap[b]? :=by
  intro b ab;show(w.heap.push _)[b]? =_;rw[Array.getElem?_push,if_neg (by omega)]
 have o3:(w.alloc (.cells #[yk] ty)).heap[w.heap.size]? =some (.cells #[yk] ty):=by
  show(w.heap.push _)[_]? =_;simp
 have IY:(w.alloc (.cells #[yk] ty)).heap.size=w.heap.size+1:=by simp
 have aiw:=xO.grow hold (by rw[IY];omega) rfl rfl ⟨rfl,λ_=>Nat.le_refl _⟩;generalize ayr:w.alloc (.cells #[yk] ty)=fw at*;generalize Yp:Value.pointer (some ⟨w.heap.size,0,none⟩)=wh at*;have aix:¬F w.heap.size:=λh=>Nat.lt_irrefl _ (xO.fG _ h);have aiy:∀u,¬S u w.heap.size:=λu h=>Nat.lt_irrefl _ (xO.fc _ _ h);have um:w0.heap.size<=w.heap.size:=xO.size;obtain⟨gO,iX,kd⟩:=E9 (n:=n) (dst:=some k) (a:=a) wh eX jG;have Yq:=aiw.Yk (t:=k) (v:=wh);rw[show eo (λt=>a.tmps.getD t undef) k wh=λt=>(a.put (some k) wh).tmps.getD t undef from gO.symm]at Yq;have aiz:(a.put (some k) wh).tmps.getD k undef=wh:=by
  have:=congrFun gO k;simp only[qL]at this;rw[o0]at this;exact this
 have aiA:∀u,¬g_ S k (λ_=>False) u w.heap.size:=by
  intro u h;simp only[g_]at h;split at h
  .exact h
  .exact aiy u h
 have aiB:∀i∈n.fx,(a.put (some k) wh).tmps.getD i undef=ρ i:=by
  intro i aj;have:=congrFun gO i;simp only[qL]at this;rw[lp _ _ (λe=>?_)]at this
  .exact this.trans (iL i aj)
  .simp only[oC,Bool.and_eq_true,Bool.not_eq_true',contains_eq_mem,decide_eq_false_iff_not]at jG;exact jG.2 (e▸aj)
 have aiC:=kd.trans ki;generalize a.put (some k) wh=J at*;obtain⟨E7,g3⟩:=Ff ais;have aU:Ca.size=2:=by simpa using E7
 obtain⟨qT,Yr⟩:∃o,Ca[0]? =some o:=⟨Ca[0],by simp[aU]⟩
 obtain⟨xY,Ys⟩:∃o,Ca[1]? =some o:=⟨Ca[1],by simp[aU]⟩
 obtain⟨dt,JG,aiD⟩:=g3 0 qT (by simpa using Yr);obtain⟨bQ,Yt,aiE⟩:=g3 1 xY (by simpa using Ys);simp only[map_cons,map_nil,getElem?_cons_zero,getElem?_cons_succ,Option.some.injEq]at JG Yt;subst JG Yt;obtain⟨v_,x9,O0,JL⟩:=B9 (r:=⟨some d9,.p9 f (cs.map .t),none⟩) rfl aiD;obtain⟨v1,v2,v3,v4⟩:=B9 (r:=⟨none,.k3 ty (.t k) (.t d9),none⟩) rfl aiE;change s3 qT.op= .p9 f (cs.map .t)at O0;change s3 xY.op= .k3 ty (.t k) (.t d9)at v3;obtain⟨aiF,Yu,aiG⟩:∃rJ:Array Operand,qT.op= .makeFunc (.func f) #[] rJ/\sV rJ.toList=some (cs.map .t):=by
  rcases rP O0 with h|h
  .cases h
  .exact aij h
 have aiH:=Yl aiG;obtain⟨Nn,EV,Yv,O1,aiI⟩:∃a b,xY.op= .store ty a b/\eH a=some (.t k)/\eH b=some (.t d9):=by
  rcases rP v3 with h|h
  .cases h
  .exact aii h
 have:=JF O1;subst this;have:=JF aiI;subst this;refine wp_seq (wp_region ?_);rw[aU];refine OX (C:=C) (l:=[1]) Yr x9 ?_;have aiJ:(execOp J.eval qT).run C.P fw= .ok (.value (.func (.func f) #[] (cs.map λj=>J.tmps.getD j undef).toArray)) fw:=by
  obtain⟨dst,op,JE,pos,after,guard⟩:=qT;simp only at Yu;subst Yu;have:aiF.map J.eval=(cs.map λj=>J.tmps.getD j undef).toArray:=by
   apply Array.ext';rw[Array.toList_map,aiH,List.map_map];rfl
  rw[<-this];simp[execOp];rfl
 unfold Oper.wp;rw[aiJ,Oper.upon_value];have aiK:some d9=qT.dst:=v_;rw[<-aiK]at JL⊢;generalize O2:Value.func (.func f) #[] (cs.map λj=>J.tmps.getD j undef).toArray=j0 at*;have aiL:Value.hq j0=true:=by rw[<-O2];rfl
 obtain⟨fs,hn,mZ⟩:=E9 (n:=n) (dst:=some d9) (a:=J) j0 iX JL;have Yw:=Yq.Yk (t:=d9) (v:=j0);rw[show eo (λt=>J.tmps.getD t undef) d9 j0=λt=>(J.put (some d9) j0).tmps.getD t undef from fs.symm]at Yw;have O3:∀j,j≠d9->(J.put (some d9) j0).tmps.getD j undef=J.tmps.getD j undef:=by
  intro j bE;have:=congrFun fs j;simp only[qL]at this;rw[lp _ _ bE]at this;exact this
 have aiM:(J.put (some d9) j0).tmps.getD d9 undef=j0:=by
  have:=congrFun fs d9;simp only[qL]at this;rw[o0]at this;exact this
 have Yx:∀u,¬g_ (g_ S k (λ_=>False)) d9 (λ_=>False) u w.heap.size:=by
  intro u h;simp only[g_]at h;split at h
  .exact h
  .exact aiA u h
 have aiN:∀i∈n.fx,(J.put (some d9) j0).tmps.getD i undef=ρ i:=by
  intro i aj;rw[O3 i (λe=>?_)]
  .exact aiB i aj
  .simp only[oC,Bool.and_eq_true,Bool.not_eq_true',contains_eq_mem,decide_eq_false_iff_not]at JL;exact JL.2 (e▸aj)
 have aiO:=mZ.trans aiC;have aiP:j0= .func (.func f) #[] (cs.map λj=>(J.put (some d9) j0).tmps.getD j undef).toArray:=by
  have:(cs.map λj=>(J.put (some d9) j0).tmps.getD j undef)=cs.map λj=>J.tmps.getD j undef:=
   map_congr_left λj bE=>O3 j (λe=>JK (e▸bE))
  rw[this,O2]
 have Yy:(J.put (some d9) j0).tmps.getD k undef=wh:=(O3 k ain).trans aiz;generalize J.put (some d9) j0=a3 at*;refine OX (C:=C) (l:=[]) Ys v2 ?_;obtain⟨hR,m1,m2,m3,m4,m5,m6,m7⟩:=II (P:=C.P) (b:=w.heap.size) (o:=0) (e:=ty) (fr:=(0,0)) [j0] 0 #[yk] fw [] [yk] [] o3 (λo _ h=>absurd h.2 (not_lt_zero _)) rfl rfl rfl (λv aB=>by simp at aB;subst aB;exact aiL);have aiQ:(execOp a3.eval xY).run C.P fw= .ok .skip hR:=by
  obtain⟨dst,op,JE,pos,after,guard⟩:=xY;simp only at Yv;subst Yv;have q0:a3.eval (.tmp k)= .pointer (some ⟨w.heap.size,0,none⟩):=by rw[Yp];exact Yy
  have z2:a3.eval (.tmp d9)=j0:=aiM;have z3:j0.cells= #[j0]:=by rw[<-O2];rfl
  simp[execOp,q0,z2,Instr.storeAt,Instr.sureAddr,storeVar,nx Yn,ail,z3,m1]
 unfold Oper.wp;rw[aiQ,Oper.upon_skip];have zV:none=xY.dst:=v1;rw[<-zV];show wpOps C.P Ca _ [] a3 hR;show Exit.then _ _ .normal _ _;have aiR:=(Yw.off (b:=w.heap.size) um aix Yx m3 m4 m5 m6 m7).aif um (by rw[m4,IY];omega) Yx;refine wp_seq (X6 (K:=λaC=>eM (bn C oJ Q) aC) (b:=w.heap.size) (g:=f) (k0:=k0) (cs:=cs) bU ait kP hm nW B8 aiO hn aiN aiR (.inr rfl) (Yy.trans Yp.symm) (by rw[m2,<-aiP];rfl) ?_ ?_)
 .refine zM (λ_ s1=>?_) h;rintro⟨ps,r,q0,z2,z3,z4,z5,aiS,aiT⟩;exact⟨ps,r,q0,z2,z3,z4,z5,aiS,zM (λ_ s h=>.inr ⟨_,Yg _ _,h⟩) aiT⟩
 .intro aC dF aJ nY fv;obtain⟨ays,h1,af⟩:=fv.eM nY;exact WB bU c5 aiq (aA.Jb oJ (aA.Wt oJ fL)) (Jd oJ h1) af
theorem aW.aiU (bU:C.Ok) {f:FuncId} {fn:Func} {c:Code} {eb:aA} {fx:aAf} {zQ outs:aAk} {r:I} (bI:C.P.funcs[f]? =some fn) (ab:fn.body=some c)
  (mF:(fn.name== "runtime.NumGoroutine")=false) (ae:fQ ⟨fn.ntmps,fx⟩ c=some eb.strip) (aV:zQ.length<=fn.ntmps) (hk:eb.qc (FK C))
  (h:∀Q:Exit->an->Prop,(∀s,eM (Ends C fx fn.results.toList r outs) s->Q .ret s)->(∀s,eM (Ends C fx fn.results.toList r outs) s->Q .normal s)->bn C eb Q (ar (num 0 zQ))):aW C f zQ r outs:=by
 intro w F X S vs hl aR;refine Ob (fx:=fx) bU bI ab mF aV hl aR λa hrel fe=>?_;refine N_ bU (H:=FK C) (λc T b Q s a w kP FI a6 aR=>aik bU kP FI a6 aR) c (by rw[aA.N6];exact ae) (aA.Jb eb hk) (Jd eb ?_) hrel;rw[Jg];exact h _ (λs h=>⟨.inr rfl,h⟩) (λs h=>⟨.inl rfl,h⟩)
theorem aiV {Q:Exit->an->Prop} {l:aAj} {f:FuncId} {k k0 d0 d9:Nat} {cs:aAf} {m:List cB} {args:List bA} {d1:Option Nat} {keep:aAf} {oJ b:aA} (cr:aAj)
  (h:∀P:aAj->Prop,P cr->s_ C f k k0 d0 cs m args d1 [] keep P (fin (fin (ar l) (some k) .hole) (some d9) .hole)) (hk:bn C oJ Q (ar cr)):bn C (.kU (OY C f k k0 d0 d9 cs m args d1 keep oJ) b) Q (ar l):=
 λfk OV=>h (λl=>bn C oJ fk (ar l)) (N8 oJ OV hk)
end
end Go.en
namespace Go.en
open List Option Go.IntKind Nat Or
theorem O4 {α:Type} {h:Decidable True} (t e:α): @ite α True h t e=t:=if_pos trivial
theorem O5 {α:Type} {h:Decidable False} (t e:α): @ite α False h t e=e:=if_neg id
theorem O6 {α:Type} [BEq α] [ReflBEq α] (a:α):(a==a)=true:=BEq.rfl
theorem Yz {α:Type} (a b:α):(a≠b)=¬(a=b):=rfl
theorem YA:I.owner .hole=none/\(∀b,I.owner (.bool b)=none)/\I.owner .gq=none/\(∀k n,I.owner (.int k n)=none)/\(∀x,I.owner (.str x)=none)/\I.owner .et=none/\I.owner .bf=none/\(∀x,I.owner (.slice x)=none)/\(∀n x,I.owner (.ag n x)=none)/\
  (∀x,I.owner (.ref x)=none)/\(∀x,I.owner (.aP x)=none)/\(∀x,I.owner (.agg x)=none)/\(∀x,I.owner (.tuple x)=none)/\(∀f c,I.owner (.fn f c)=none)/\(∀x q,I.owner (.h x q)=some x):=
 ⟨rfl,λ_=>rfl,rfl,λ_ _=>rfl,λ_=>rfl,rfl,rfl,λ_=>rfl,λ_ _=>rfl,λ_=>rfl,λ_=>rfl,λ_=>rfl,λ_=>rfl,λ_ _=>rfl,λ_ _=>rfl⟩
theorem YB:(¬False)=True:=not_false_eq_true
theorem YC:(¬True)=False:=not_true_eq_false
theorem YD:∀a b:Nat,(some a=some b)=(a=b):=λ_ _=>propext ⟨λh=>some.inj h,λh=>congrArg some h⟩
theorem YE:(∀n,num n []=[])/\(∀n a zQ,num n (a::zQ)=(n,a)::num (n+1) zQ):=⟨λ_=>rfl,λ_ _ _=>rfl⟩
theorem YF:∀s1:an,da (some s1)=some (.hole,s1):=λ_=>rfl
theorem O7:(∀t o,ud t (.ck o)= .h t [])/\(∀(l:aAj) t o,fin (ar l) (some t) (.ck o)=ar ((t,.ck o)::v7 t l))/\(∀o,I.plain (.ck o)=false)/\(∀t o,dJ t (.ck o)= .ck o)/\(∀t o,cU t (.ck o)= .ck o)/\
  (∀o,I.d_ (.ck o)= .hole)/\(∀o,I.wd (.ck o)=1)/\(∀o,I.hv (.ck o)=true)/\(∀a b,xW (.ck a) (.ck b)=true)/\(∀s x q d o,dq.kR s ⟨.h x q,true,d,.ck o⟩=eo (oZ x s) x (I.put q (.ck o) (s x)))/\(∀o,I.ae (.ck o)=[])/\(∀o,I.tree (.ck o)=true)/\(∀a b n m z,hC.ok ⟨.map a b,n,m,z⟩=true)/\(∀a b n m z,hC.flat ⟨.map a b,n,m,z⟩=true):=
 ⟨λ_ _=>rfl,λl t o=>by simp only[fin,I.plain,Bool.false_eq_true,if_false,Of,Fq],λ_=>rfl,λ_ _=>by unfold dJ;rfl,λ_ _=>by unfold cU;rfl,λ_=>by simp only[I.d_],λ_=>by simp only[I.wd],λ_=>rfl,λ_ _=>rfl,λ_ _ _ _ _=>by simp[dq.kR],λ_=>by simp only[I.ae],λ_=>rfl,λ_ _ _ _ _=>rfl,λ_ _ _ _ _=>rfl⟩
def aiW:=PLift.up (U O7<|U YE<|U YF<|U YD<|U YA<|U YB<|U YC<|U @O4 (U @O5 (U @O6 (U @Yz ahJ.down))))
def aiX:=PLift.up (U O7<|U YE<|U YF<|U YD<|U YA<|U YB<|U YC<|U @O4 (U @O5 (U @O6 (U @Yz FD.down))))
def aiY:=PLift.up (U O7<|U @O6<|U @O4 (U @O5 ahK.down))
def zW (l:aAf):aAf:=l.foldr (λx acc=>if acc.contains x then acc else x::acc) []
theorem YG {x:Nat}:∀{l:aAf},x∈zW l↔x∈l
 |[]=>Iff.rfl
 |y::l=>by
  have ih:=YG (x:=x) (l:=l);have e:zW (y::l)=if(zW l).contains y then zW l else y::zW l:=rfl;rw[e];split
  .rename_i h;have bL:y∈zW l:=by simpa using h
   constructor
   .intro aq;exact mem_cons_of_mem _ (ih.1 aq)
   .intro aq;rcases mem_cons.1 aq with rfl|aq
    .exact bL
    .exact ih.2 aq
  .simp only[mem_cons,ih]
def O8:aAd->aAd->aAd
 |done,[]=>done
 |done,a::r=>O8 (done++[zW (a++a.flatMap λe=>(done[e]?).getD [])]) r
def aiZ (de:aAd):aAd:=O8 [] de
def O9 (c d:aAd):Prop:=c.length=d.length/\∀(i x:Nat),x∈(c[i]?).getD []↔x∈(d[i]?).getD []
theorem YH:∀(r c d:aAd),O9 c d->O9 (O8 c r) (Fv d r)
 |[],c,d,h=>h
 |a::r,c,d,h=>by
  refine YH r _ _ ⟨by simp[h.1],λi x=>?_⟩;rcases Nat.lt_trichotomy i c.length with aj|aj|aj
  .rw[getElem?_append_left aj,getElem?_append_left (by rw[<-h.1];exact aj)];exact h.2 i x
  .rw[getElem?_append_right (by omega),getElem?_append_right (by rw[<-h.1];omega),aj,Nat.sub_self,h.1,Nat.sub_self];simp only[getElem?_cons_zero,getD_some,YG,mem_append,mem_flatMap];constructor
   .rintro(aq|⟨e,he,aq⟩)
    .exact .inl aq
    .exact .inr ⟨e,he,(h.2 e x).1 aq⟩
   .rintro(aq|⟨e,he,aq⟩)
    .exact .inl aq
    .exact .inr ⟨e,he,(h.2 e x).2 aq⟩
  .rw[getElem?_eq_none (by simp;omega),getElem?_eq_none (by simp[<-h.1];omega)]
theorem YI {c d:aAd} (h:O9 c d):∀(aG:List fJ) (j:Nat) (es:List (Nat×fJ)),kG c j es aG=kG d j es aG
 |[],_,_=>rfl
 |f::aG,j,es=>by
  simp only[kG];rw[YI h aG];congr 2;funext e;congr 1;rw[Bool.eq_iff_iff];simp only[contains_iff_mem];exact h.2 j e.1
theorem hS {de:aAd} {j:Nat} {es:List (Nat×fJ)} {aG:List fJ} (h:kG (aiZ de) j es aG=true):kG (nG de) j es aG=true:=by
 exact(YI (YH de [] [] ⟨rfl,λ_ _=>Iff.rfl⟩) aG j es).symm.trans h
abbrev ro (d:Nat) (b4:e2):cB:=⟨some d,b4,none⟩
abbrev aN (d x:Nat):cB:=ro d (.ht (.t x))
abbrev cb (d x:Nat):cB:=ro d (.hN (.t x))
abbrev cw (d T x:Nat):cB:=ro d (.ld T (.t x))
abbrev dS (d T x k:Nat):cB:=ro d (.hV T (.t x) k)
abbrev gw (d T x i:Nat):cB:=ro d (.kg T (.t x) (.t i))
abbrev jw (d T x:Nat):cB:=ro d (.len T (.t x))
abbrev nH (d x:Nat):cB:=ro d (.mA (.t x))
abbrev iP (d:Nat) (o:BinOp) (T x y:Nat):cB:=ro d (.eP o T (.t x) (.t y))
abbrev dy (d:Nat) (o:BinOp) (T x:Nat) (n:Int):cB:=ro d (.eP o T (.t x) (.c (.int .i64 n)))
abbrev yl (d:Nat) (n:Int):cB:=ro d (.ht (.c (.int .i64 n)))
abbrev ie (d:Nat) (n:Int):cB:=ro d (.hN (.c (.int .i64 n)))
abbrev n2 (d:Nat) (b:Bool):cB:=ro d (.hN (.c (.bool b)))
abbrev n3 (d:Nat):cB:=ro d (.hN (.c .bf))
abbrev o7 (d T:Nat):cB:=ro d (.mR T)
abbrev iw (d g a:Nat):cB:=ro d (.call (.f g) [.t a])
abbrev j1 (d g a b:Nat):cB:=ro d (.call (.f g) [.t a,.t b])
abbrev YJ (d g a b c:Nat):cB:=ro d (.call (.f g) [.t a,.t b,.t c])
abbrev FM (d g a b c e:Nat):cB:=ro d (.call (.f g) [.t a,.t b,.t c,.t e])
abbrev km (d x k:Nat):cB:=ro d (.ex (.t x) k)
abbrev q2 (d x:Nat):cB:=ro d (.un .not (.t x))
abbrev uG (d T x:Nat):cB:=ro d (.dM T 1 [(0,.t x)])
abbrev uH (d T dZ x y:Nat):cB:=ro d (.app T dZ (.t x) (.t y))
abbrev jJ (T x y:Nat):cB:=⟨none,.k3 T (.t x) (.t y),none⟩
abbrev JM (d A B x:Nat):cB:=ro d (.k5 A B (.t x))
theorem aW.O_ {C:cu} (bU:C.Ok) {f:FuncId} {fn:Func} {c:Code} {eb:aA} {fx:aAf} {zQ outs:aAk} {r:I} (e8:List ResultVar) (l:aAj) (bI:C.P.funcs[f]? =some fn) (ab:fn.body=some c)
  (mF:(fn.name== "runtime.NumGoroutine")=false) (ae:fQ ⟨fn.ntmps,fx⟩ c=some eb.strip) (aV:zQ.length<=fn.ntmps) (hb:fn.results.toList=e8) (hl:num 0 zQ=l)
  (h:∀Q:Exit->an->Prop,(∀s,eM (Ends C fx e8 r outs) s->Q .ret s)->(∀s,eM (Ends C fx e8 r outs) s->Q .normal s)->bn C eb Q (ar l)) (aw:eb.plain=true:=by kernel_rfl):aW C f zQ r outs:=by
 subst hb hl;exact aW.ahr bU bI ab mF ae aV h aw
theorem pM.O_ {C:cu} (bU:C.Ok) {f:FuncId} {fn:Func} {c:Code} {eb:aA} {fx:aAf} {zQ outs:aAk} {r:I} {k m:Nat} (e8:List ResultVar) (l:aAj) (bI:C.P.funcs[f]? =some fn) (ab:fn.body=some c)
  (mF:(fn.name== "runtime.NumGoroutine")=false) (ae:fQ ⟨fn.ntmps,fx⟩ c=some eb.strip) (aV:zQ.length<=fn.ntmps) (hk:eb.qc (JI C f fx zQ.length m k)) (hb:fn.results.toList=e8) (hl:num 0 zQ=l)
  (h:∀Q:Exit->an->Prop,(∀s,eM (Ends C fx e8 r outs) s->Q .ret s)->(∀s,eM (Ends C fx e8 r outs) s->Q .normal s)->bn C eb Q (ar l)):pM C f m k zQ r outs:=by
 subst hb hl;exact pM.of_wp bU bI ab mF ae aV hk h
theorem aW.ai0 {C:cu} (bU:C.Ok) {f:FuncId} {fn:Func} {c:Code} {eb:aA} {fx:aAf} {zQ outs:aAk} {r:I} (e8:List ResultVar) (l:aAj) (bI:C.P.funcs[f]? =some fn) (ab:fn.body=some c)
  (mF:(fn.name== "runtime.NumGoroutine")=false) (ae:fQ ⟨fn.ntmps,fx⟩ c=some eb.strip) (aV:zQ.length<=fn.ntmps) (hk:eb.qc (FK C)) (hb:fn.results.toList=e8) (hl:num 0 zQ=l)
  (h:∀Q:Exit->an->Prop,(∀s,eM (Ends C fx e8 r outs) s->Q .ret s)->(∀s,eM (Ends C fx e8 r outs) s->Q .normal s)->bn C eb Q (ar l)):aW C f zQ r outs:=by
 subst hb hl;exact aW.aiU bU bI ab mF ae aV hk h
theorem hd {b:Bool} (h:(!b)=true):b=false:=by cases b<;>first|rfl|cases h
theorem cf {b:Bool} (h:(!b)=false):b=true:=by cases b<;>first|rfl|cases h
theorem ai1 {α:Type} {sz:Nat} {o:Bool×α->I} {u:α->I} (h:(o∘λx=>(false,x))=u) (e:List α):fB (.ag sz (e.map u)) (.ag sz ((e.map λx=>(false,x)).map o)):=by
 rw[List.map_map,h];exact .refl _
def wi (p:aAf) (ros:List cB):List cB:=p.map λi=>ros.getD i ⟨none,.bad,none⟩
def qg (de:aAd) (b a:Nat):aAd:=de.set b (a::(de[b]?).getD [])
def permA (p:aAf) (de:aAd):aAd:=p.map λi=>((de[i]?).getD []).map λe=>p.idxOf e
theorem FN {p:aAf} {i:Nat} (h:i∈p):p[p.idxOf i]? =some i:=by
 have hl:=idxOf_lt_length_of_mem h;rw[getElem?_eq_getElem hl,getElem_idxOf hl]
theorem ai2 {p:aAf} {i j:Nat} (aj:i∈p) (bE:j∈p) (h:p.idxOf i=p.idxOf j):i=j:=by
 have a:=FN aj;rw[h,FN bE]at a;exact(some.inj a).symm
theorem YK {C:cu} {ros:List cB} {p:aAf} (aw:∀i∈p,i<ros.length):∀(l:aAf) (s:an) (K:an->Prop),(∀i∈l,i∈p)->kT C (wi p ros) s (l.map p.idxOf) K->kT C ros s l K
 |[],_,_,_,h=>h
 |i::l,s,K,hl,h=>by
  have aj:=hl i (by simp);have aK:(wi p ros)[p.idxOf i]? =some (ros.getD i ⟨none,.bad,none⟩):=by
   rw[wi,getElem?_map,FN aj];rfl
  have aT:ros[i]? =some (ros.getD i ⟨none,.bad,none⟩):=by
   rw[getD_eq_getElem?_getD,getElem?_eq_getElem (aw i aj)];rfl
  rw[map_cons,kT,aK]at h;rw[kT,aT];exact Jc h λs1 h1=>YK aw l s1 K (λj bE=>hl j (by simp[bE])) h1
theorem ai3 {de:aAd} {p l:aAf} (aV:p.Nodup) (hm:∀i,i∈p↔i<de.length) (h:s5 de l):s5 (permA p de) (l.map p.idxOf):=by
 obtain⟨h1,af,ay⟩:=h;have Cb:∀i∈l,i∈p:=λi aj=>(hm i).2 ((af i).1 aj);refine⟨?_,λj=>?_,?_⟩
 .rw[Nodup,pairwise_map];exact Pairwise.imp_of_mem (λbs ab jS e=>jS (ai2 (Cb _ bs) (Cb _ ab) e)) h1
 .rw[permA,length_map,mem_map];constructor
  .rintro⟨i,aj,rfl⟩;exact idxOf_lt_length_of_mem (Cb i aj)
  .intro bE;have uI:p[j]∈p:=getElem_mem bE;refine⟨p[j],(af _).2 ((hm _).1 uI),?_⟩;have e:=FN uI;have eA:=idxOf_lt_length_of_mem uI;rw[getElem?_eq_getElem eA]at e;exact(getElem_inj aV).1 (some.inj e)
 .intro u j v hu e he;obtain⟨BS,w0,rfl,rfl,hw⟩:=map_eq_append_iff.1 hu;obtain⟨i,v0,rfl,rfl,rfl⟩:=map_eq_cons_iff.1 hw;have aj:i∈p:=Cb i (by simp);rw[permA,getElem?_map,FN aj]at he;simp only[map_some,getD_some,mem_map]at he;obtain⟨gb,ai4,rfl⟩:=he;exact List.mem_map_of_mem (ay BS i v0 rfl gb ai4)
theorem YL {de:aAd} {l u v:aAf} {a b:Nat} (h:s5 de l) (hl:l=u++a::v) (ab:b∈v) (jS:a≠b):s5 (qg de b a) l:=by
 obtain⟨h1,af,ay⟩:=h;refine⟨h1,λi=>by rw[af,qg,length_set],λx9 i v2 hu e he=>?_⟩;by_cases YM:i=b
 .subst YM;have eA:i<de.length:=(af i).1 (by rw[hl];simp[ab]);rw[qg,getElem?_set_self eA]at he;simp only[getD_some,mem_cons]at he;rcases he with rfl|he
  .have e:=hl.symm.trans hu;rcases append_eq_append_iff.1 e with⟨c,nA,lq⟩|⟨c,nA,lq⟩
   .cases c with
    |nil=>simp at lq;exact absurd lq.1 jS
    |cons x c=>simp at lq;rw[nA,lq.1];simp
   .cases c with
    |nil=>simp at lq;exact absurd lq.1.symm jS
    |cons x c=>
     simp at lq;exfalso;rw[hl,nA,<-lq.1]at h1;have:=(nodup_append.1 h1).2.2 i (by simp) i (by simp[ab]);exact this rfl
  .exact ay x9 i v2 hu e he
 .rw[qg,getElem?_set_ne (λe=>YM e.symm)]at he;exact ay x9 i v2 hu e he
theorem ai5 {de:aAd} {l:aAf} {a b:Nat} (h:s5 de l) (bs:a<de.length) (ab:b<de.length) (jS:a≠b):s5 (qg de b a) l\/s5 (qg de a b) l:=by
 obtain⟨u,v,hl⟩:=append_of_mem ((h.2.1 a).2 bs);have xP:=(h.2.1 b).2 ab;rw[hl]at xP;simp only[mem_append,mem_cons]at xP;rcases xP with ai6|rfl|ai7
 .obtain⟨v_,x9,rfl⟩:=append_of_mem ai6;exact .inr (YL h (u:=v_) (v:=x9++a::v) (by rw[hl];simp) (by simp) (λe=>jS e.symm))
 .exact absurd rfl jS
 .exact .inl (YL h hl ai7 jS)
theorem YN {C:cu} {ros:List cB} {de:aAd} {s:an} {K:an->Prop} (a b:Nat) (p:aAf) (hlen:de.length=ros.length) (au:(decide (a<de.length)&&decide (b<de.length)&&decide (a≠b)&&decide p.Nodup&&(range de.length).all (λi=>p.contains i)&&p.all (λi=>decide (i<de.length)))=true)
  (h1:dD C s ros (some []) (λacc s=>kG (nG (qg de b a)) 0 [] (acc.getD []).reverse=true/\K s))
  (af:dD C s (wi p ros) (some []) (λacc s=>kG (nG (permA p (qg de a b))) 0 [] (acc.getD []).reverse=true/\K s)):∀l,s5 de l->kT C ros s l K:=by
 simp only[Bool.and_eq_true,decide_eq_true_eq,List.all_eq_true]at au;obtain⟨⟨⟨⟨⟨bs,ab⟩,jS⟩,aV⟩,fL⟩,YO⟩:=au;intro l hl;have ym:∀i j,(qg de i j).length=de.length:=λi j=>by rw[qg,length_set]
 rcases ai5 hl bs ab jS with h|h
 .exact Jm ((ym _ _).trans hlen) h1 l h
 .have hm:∀i,i∈p↔i<de.length:=by
   intro i;refine⟨YO i,λaj=>?_⟩;simpa using fL i (mem_range.2 aj)
  have Cb:=ai3 aV (λi=>by rw[hm,ym]) h;refine YK (λi aj=>by rw[<-hlen];exact YO i aj) l s K (λi aj=>(hm i).2 ((hl.2.1 i).1 aj)) ?_;exact Jm (by rw[permA,wi,length_map,length_map]) af _ Cb
theorem ai8 {C:cu} {Q:Exit->an->Prop} {l:aAj} {ros:List cB} {de:aAd} {k:aAf} (a b:Nat) (p:aAf) (hlen:de.length=ros.length) (au:(decide (a<de.length)&&decide (b<de.length)&&decide (a≠b)&&decide p.Nodup&&(range de.length).all (λi=>p.contains i)&&p.all (λi=>decide (i<de.length)))=true)
  (cr:aAj) (h1:∀P:aAj->Prop,P cr->dD C (ar l) ros (some []) (λacc s=>kG (nG (qg de b a)) 0 [] (acc.getD []).reverse=true/\P (gK k s)))
  (af:∀P:aAj->Prop,P cr->dD C (ar l) (wi p ros) (some []) (λacc s=>kG (nG (permA p (qg de a b))) 0 [] (acc.getD []).reverse=true/\P (gK k s))) (hk:Q .normal (ar cr)):
  bn C (.jX ros de (some k)) Q (ar l):=
 YN (K:=λs=>Q .normal (ar (gK k s))) a b p hlen au (h1 (λl=>Q .normal (ar l)) hk) (af (λl=>Q .normal (ar l)) hk)
theorem ai9 {C:cu} {Q:Exit->an->Prop} {l:aAj} {ros:List cB} {de:aAd} {k:aAf} {c:aA} (a b:Nat) (p:aAf) (hlen:de.length=ros.length) (au:(decide (a<de.length)&&decide (b<de.length)&&decide (a≠b)&&decide p.Nodup&&(range de.length).all (λi=>p.contains i)&&p.all (λi=>decide (i<de.length)))=true)
  (cr:aAj) (h1:∀P:aAj->Prop,P cr->dD C (ar l) ros (some []) (λacc s=>kG (nG (qg de b a)) 0 [] (acc.getD []).reverse=true/\P (gK k s)))
  (af:∀P:aAj->Prop,P cr->dD C (ar l) (wi p ros) (some []) (λacc s=>kG (nG (permA p (qg de a b))) 0 [] (acc.getD []).reverse=true/\P (gK k s))) (hk:bn C c Q (ar cr)):
  bn C (.seq (.jX ros de (some k)) c) Q (ar l):=
 YN (K:=λs=>eM (bn C c Q) (ar (gK k s))) a b p hlen au (h1 (λl=>eM (bn C c Q) (ar l)) (.inl hk)) (af (λl=>eM (bn C c Q) (ar l)) (.inl hk))
section
variable {C:cu} {s:an} {l:aAj} {Q:Exit->an->Prop}
theorem o8 {fx:aAf} {e8:List ResultVar} {r:I} (ds:aAk) (af:r=B5 ds:=by cases im (by assumption);rfl) (h1:e8.map (qX C s)=ds.map some:=by rfl) (ay:(e8.map kF).Nodup:=by decide):Ends C fx e8 r [] s:=
 Xv ds h1 af ay ahs
theorem cK {fx:aAf} {e8:List ResultVar} {r:I} (k:∀s,eM (Ends C fx e8 r []) s->Q .ret s) (ds:aAk) (af:r=B5 ds:=by cases im (by assumption);rfl) (h1:e8.map (qX C s)=ds.map some:=by rfl) (ay:(e8.map kF).Nodup:=by decide):bn C .ret Q s:=
 hc (k _ (.inl (o8 ds af h1 ay)))
theorem ax {eL:an->Prop} {a b:aA} (FO:∀s,eL s->Q .ret s) (h:∀fk:Exit->an->Prop,(∀s,eM (bn C b Q) s->fk .normal s)->(∀s,eL s->fk .ret s)->(∀i s,Q (.exit i) s->fk (.exit i) s)->bn C a fk s):bn C (.seq a b) Q s:=
 ahn λfk n q x=>h fk n (λs ae=>q s (FO s ae)) x
theorem bj {eL:an->Prop} {id:Nat} {b:aA} (FO:∀s,eL s->Q .ret s) (h:∀fk:Exit->an->Prop,(∀s,Q .normal s->fk .normal s)->(∀s,eL s->fk .ret s)->(∀s,Q .normal s->fk (.exit id) s)->(∀i s,i≠id->Q (.exit i) s->fk (.exit i) s)->bn C b fk s):bn C (.block id b) Q s:=
 ahp λfk n q b x=>h fk n (λs ae=>q s (FO s ae)) b x
theorem cW {eL:an->Prop} {b:aA} (FO:∀s,eL s->Q .ret s) (h:∀fk:Exit->an->Prop,(∀s,eM (cJ C b Q) s->fk .normal s)->(∀s,eL s->fk .ret s)->(∀i s,Q (.exit i) s->fk (.exit i) s)->bn C b fk s):cJ C b Q s:=
 ahq λfk n q x=>h fk n (λs ae=>q s (FO s ae)) x
theorem dp {β:Type} {f:Nat->Option β} {v:β} {b:aA} {cr:aAj} (h:lim f=some v) (k:∀n,f n=some v->cJ C b Q (ar cr)) (hw:cr.map (·.2)=cr.map (λp=>s p.1):=by rfl):bn C (.loop b) Q s:=
 let⟨n,aV⟩:=ma h
 qe (.inr ⟨cr,bD hw,k n aV⟩)
theorem aF {β:Type} {c:bA} {t e:aA} {b:Bool} {x y:Option β} {r:β} (h:cond b x y=some r) (h1:b=true->x=some r->bn C t Q s) (af:b=false->y=some r->bn C e Q s) (au:bx s c= .bool b:=by rfl):bn C (.cond c t e) Q s:=by
 rcases dL h with⟨rfl,h⟩|⟨rfl,h⟩
 .exact i1 au (h1 rfl h)
 .exact n1 au (af rfl h)
end
def aA.pN:aA->aAd->aA×aAd
 | .eh r _,k::mG=>(.eh r (some k),mG)
 | .jX r a _,k::mG=>(.jX r a (some k),mG)
 | .seq a b,mG=>(.seq (a.pN mG).1 (b.pN (a.pN mG).2).1,(b.pN (a.pN mG).2).2)
 | .cond c a b,mG=>(.cond c (a.pN mG).1 (b.pN (a.pN mG).2).1,(b.pN (a.pN mG).2).2)
 | .block i a,mG=>(.block i (a.pN mG).1,(a.pN mG).2)
 | .loop a,mG=>(.loop (a.pN mG).1,(a.pN mG).2)
 |c,mG=>(c,mG)
def bS (n:Nat) (k:aAf) (f:Func) (mG:aAd):aA:=(((fQ ⟨n,k⟩ (f.body.getD .skip)).getD .skip).pN mG).1
def bT (x:aA) {c:aA} (h:x=c:=by
    conv=>lhs;reduce):aA:=c
theorem dk {α β γ:Type} {x:Option α} {p:α->Option β} {q:α->β->Option γ} {r:γ} (h:(x.bind λa=>(p a).bind (q a))=some r):∃a,x=some a/\∃b,p a=some b/\q a b=some r:=
 let⟨a,e,h⟩:=aM h
 ⟨a,e,aM h⟩
theorem iQ {α β γ δ:Type} {x:Option α} {p:α->Option β} {q:α->β->Option δ} {k:α->β->δ->Option γ} {r:γ} (h:(x.bind λa=>(p a).bind λb=>(q a b).bind (k a b))=some r):∃a,x=some a/\∃b,p a=some b/\∃c,q a b=some c/\k a b c=some r:=
 let⟨a,e,h⟩:=aM h
 ⟨a,e,dk h⟩
theorem h3 {C:cu} {s:an} {fx:aAf} {e8:List ResultVar} {r:I} {outs:aAk} (ds:aAk)
  (a_:∀(i:Nat) (o:I),outs[i]? =some o->o= .hole\/(o=s i/\o.hv=true/\i∈fx/\i∉e8.map kF)) (af:r=B5 ds:=by cases im (by assumption);rfl) (h1:e8.map (qX C s)=ds.map some:=by rfl) (ay:(e8.map kF).Nodup:=by decide):Ends C fx e8 r outs s:=Xv ds h1 af ay a_
end Go.en
namespace Go.Proofs.YtafceioodemeeaaGreatDoor
open List Option Go.IntKind Nat Or
open Go Go.en Go.pO
set_option linter.unusedSimpArgs false
def nh (x:jx):I:=.agg [.int .i64 x.Kind,.int .i64 x.Value]
theorem akQ (x:jx):(nh x).share=nh x:=by
 simp only[nh,cR]
theorem ayX (x:jx):(nh x).c8=true:=by
 simp only[nh,I.c8,I.gJ,Bool.and_self]
def lJ (x:aAp):I:=.slice (x.map nh)
theorem Y1 (x:aAp):(lJ x).share=lJ x:=by
 simp only[lJ,cR, @b0 _ nh nh (λ_=>akQ _)]
def kK (x:ly):I:=.agg [.int .i64 x.Kind,.int .i64 x.Number,.str x.Name,.slice (x.cm.map lJ)]
theorem Y2 (x:ly):(kK x).share=kK x:=by
 simp only[kK,cR, @b0 _ lJ lJ (λ_=>Y1 _)]
def j6 (x:lz):I:=.agg [.str x.Name,.int .i64 x.dW,.slice (x.Body.map kK)]
theorem Y3 (x:lz):(j6 x).share=j6 x:=by
 simp only[j6,cR, @b0 _ kK kK (λ_=>Y2 _)]
def a8 (x:Int):I:=.int .i64 x
theorem j7 (x:Int):(a8 x).share=a8 x:=by
 simp only[a8,cR]
theorem Lk (x:Int):(a8 x).c8=true:=by
 simp only[a8,I.c8,I.gJ,Bool.and_self]
def j8 (x:lA):I:=.agg [.int .i64 x.cy,.slice (x.bP.map a8)]
theorem Y4 (x:lA):(j8 x).share=j8 x:=by
 simp only[j8,cR, @b0 _ a8 a8 (λ_=>j7 _)]
def jK (x:k8):I:=.agg [.str x.Left,.str x.cH,.str x.Result]
theorem Y5 (x:k8):(jK x).share=jK x:=by
 simp only[jK,cR]
theorem ayY (x:k8):(jK x).c8=true:=by
 simp only[jK,I.c8,I.gJ,Bool.and_self]
def aE (x:aAc):I:=.str x
theorem jz (x:aAc):(aE x).share=aE x:=by
 simp only[aE,cR]
theorem DL (x:aAc):(aE x).c8=true:=by
 simp only[aE,I.c8,I.gJ,Bool.and_self]
def od (x:o9):I:=.agg [.slice (x.cz.map j6),.slice (x.cj.map j8),.slice (x.b9.map jK),.slice (x.cC.map aE),.slice (x.cA.map aE)]
theorem ayZ (x:o9):(od x).share=od x:=by
 simp only[od,cR, @b0 _ j6 j6 (λ_=>Y3 _), @b0 _ j8 j8 (λ_=>Y4 _), @b0 _ jK jK (λ_=>Y5 _), @b0 _ aE aE (λ_=>jz _)]
def jL (x:lB):I:=.agg [.int .i64 x.cy,.int .i64 x.Part,.slice (x.bP.map a8)]
theorem ay0 (x:lB):(jL x).share=jL x:=by
 simp only[jL,cR, @b0 _ a8 a8 (λ_=>j7 _)]
def RG (x:aAr):I:=.slice (x.map j6)
theorem ay1 (x:aAr):(RG x).share=RG x:=by
 simp only[RG,cR, @b0 _ j6 j6 (λ_=>Y3 _)]
def RH (x:aAs):I:=.slice (x.map j8)
theorem ay2 (x:aAs):(RH x).share=RH x:=by
 simp only[RH,cR, @b0 _ j8 j8 (λ_=>Y4 _)]
def RI (x:aAt):I:=.slice (x.map jK)
theorem ay3 (x:aAt):(RI x).share=RI x:=by
 simp only[RI,cR, @b0 _ jK jK (λ_=>Y5 _)]
def Hm (x:aAb):I:=.slice (x.map aE)
theorem ay4 (x:aAb):(Hm x).share=Hm x:=by
 simp only[Hm,cR, @b0 _ aE aE (λ_=>jz _)]
def RJ (x:aAq):I:=.slice (x.map kK)
theorem ay5 (x:aAq):(RJ x).share=RJ x:=by
 simp only[RJ,cR, @b0 _ kK kK (λ_=>Y2 _)]
def RL (x:aAl):I:=.slice (x.map lJ)
theorem ay6 (x:aAl):(RL x).share=RL x:=by
 simp only[RL,cR, @b0 _ lJ lJ (λ_=>Y1 _)]
def Hn (x:aAe):I:=.slice (x.map a8)
theorem ay7 (x:aAe):(Hn x).share=Hn x:=by
 simp only[Hn,cR, @b0 _ a8 a8 (λ_=>j7 _)]
def dY (x:bX):I:=.agg [.int .i64 x.Kind,.int .i64 x.Value]
theorem Ho (x:bX):(dY x).share=dY x:=by
 simp only[dY,cR]
theorem akR (x:bX):(dY x).c8=true:=by
 simp only[dY,I.c8,I.gJ,Bool.and_self]
def jb (x:aAv):I:=.slice (x.map dY)
theorem RM (x:aAv):(jb x).share=jb x:=by
 simp only[jb,cR, @b0 _ dY dY (λ_=>Ho _)]
def eu (x:b8):I:=.agg [.int .i64 x.Kind,.int .i64 x.Number,.str x.Name,.slice (x.cm.map jb)]
theorem Ll (x:b8):(eu x).share=eu x:=by
 simp only[eu,cR, @b0 _ jb jb (λ_=>RM _)]
def bk (x:a1):I:=.agg [.str x.Name,.int .i64 x.dW,.slice (x.Body.map eu)]
theorem sc (x:a1):(bk x).share=bk x:=by
 simp only[bk,cR, @b0 _ eu eu (λ_=>Ll _)]
def lK (x:aAv):I:=.ag 2 (x.map dY)
theorem RN (x:aAv):(lK x).share=jb x:=by
 simp only[lK,jb,cR, @b0 _ dY dY (λ_=>Ho _)]
theorem Y6 (x:aAv):(lK x).c8=true:=by
 simp only[lK,I.c8,I.gJ,Bool.and_self, @jZ _ dY (λ_=>akR _)]
def jk (x:b8):I:=.agg [.int .i64 x.Kind,.int .i64 x.Number,.str x.Name,.ag 1 (x.cm.map lK)]
theorem RO (x:b8):(jk x).share=eu x:=by
 simp only[jk,eu,cR, @b0 _ lK jb (λ_=>RN _)]
theorem Y7 (x:b8):(jk x).c8=true:=by
 simp only[jk,I.c8,I.gJ,Bool.and_self, @jZ _ lK (λ_=>Y6 _)]
def hh (x:a1):I:=.agg [.str x.Name,.int .i64 x.dW,.ag 4 (x.Body.map jk)]
theorem AF (x:a1):(hh x).share=bk x:=by
 simp only[hh,bk,cR, @b0 _ jk eu (λ_=>RO _)]
theorem Y8 (x:a1):(hh x).c8=true:=by
 simp only[hh,I.c8,I.gJ,Bool.and_self, @jZ _ jk (λ_=>Y7 _)]
def Lm (x:aAw):I:=.ag 4 (x.map jk)
def Hp (x:aAw):I:=.slice (x.map eu)
theorem ay8 (x:aAw):(Hp x).share=Hp x:=by
 simp only[Hp,cR, @b0 _ eu eu (λ_=>Ll _)]
theorem ay9 (x:aAw):(Lm x).share=Hp x:=by
 simp only[Lm,Hp,cR, @b0 _ jk eu (λ_=>RO _)]
theorem ay_ (x:aAw):(Lm x).c8=true:=by
 simp only[Lm,I.c8,I.gJ,Bool.and_self, @jZ _ jk (λ_=>Y7 _)]
def Ln (x:aAm):I:=.ag 1 (x.map lK)
def Hq (x:aAm):I:=.slice (x.map jb)
theorem aza (x:aAm):(Hq x).share=Hq x:=by
 simp only[Hq,cR, @b0 _ jb jb (λ_=>RM _)]
theorem azb (x:aAm):(Ln x).share=Hq x:=by
 simp only[Ln,Hq,cR, @b0 _ lK jb (λ_=>RN _)]
theorem azc (x:aAm):(Ln x).c8=true:=by
 simp only[Ln,I.c8,I.gJ,Bool.and_self, @jZ _ lK (λ_=>Y6 _)]
def db (x:cM):I:=.agg [.int .i64 x.cy,.slice (x.bP.map a8)]
theorem yI (x:cM):(db x).share=db x:=by
 simp only[db,cR, @b0 _ a8 a8 (λ_=>j7 _)]
def hz (x:cM):I:=.agg [.int .i64 x.cy,.ag 1 (x.bP.map a8)]
theorem AG (x:cM):(hz x).share=db x:=by
 simp only[hz,db,cR, @b0 _ a8 a8 (λ_=>j7 _)]
theorem Y9 (x:cM):(hz x).c8=true:=by
 simp only[hz,I.c8,I.gJ,Bool.and_self, @jZ _ a8 (λ_=>Lk _)]
def Lo (x:aAe):I:=.ag 1 (x.map a8)
theorem azd (x:aAe):(Lo x).share=Hn x:=by
 simp only[Lo,Hn,cR, @b0 _ a8 a8 (λ_=>j7 _)]
theorem aze (x:aAe):(Lo x).c8=true:=by
 simp only[Lo,I.c8,I.gJ,Bool.and_self, @jZ _ a8 (λ_=>Lk _)]
def bH (x:bW):I:=.agg [.str x.Left,.str x.cH,.str x.Result]
theorem pU (x:bW):(bH x).share=bH x:=by
 simp only[bH,cR]
theorem Y_ (x:bW):(bH x).c8=true:=by
 simp only[bH,I.c8,I.gJ,Bool.and_self]
def tv (x:cT):I:=.agg [.ag 3 (x.cz.map hh),.ag 2 (x.cj.map hz),.ag 3 (x.b9.map bH),.ag 1 (x.cC.map aE),.ag 1 (x.cA.map aE)]
def ft (x:cT):I:=.agg [.slice (x.cz.map bk),.slice (x.cj.map db),.slice (x.b9.map bH),.slice (x.cC.map aE),.slice (x.cA.map aE)]
theorem azf (x:cT):(ft x).share=ft x:=by
 simp only[ft,cR, @b0 _ bk bk (λ_=>sc _), @b0 _ db db (λ_=>yI _), @b0 _ bH bH (λ_=>pU _), @b0 _ aE aE (λ_=>jz _)]
theorem azg (x:cT):(tv x).share=ft x:=by
 simp only[tv,ft,cR, @b0 _ hh bk (λ_=>AF _), @b0 _ hz db (λ_=>AG _), @b0 _ bH bH (λ_=>pU _), @b0 _ aE aE (λ_=>jz _)]
theorem azh (x:cT):(tv x).c8=true:=by
 simp only[tv,I.c8,I.gJ,Bool.and_self, @jZ _ hh (λ_=>Y8 _), @jZ _ hz (λ_=>Y9 _), @jZ _ bH (λ_=>Y_ _), @jZ _ aE (λ_=>DL _)]
def Lp (x:aAx):I:=.ag 3 (x.map hh)
def Hr (x:aAx):I:=.slice (x.map bk)
theorem azi (x:aAx):(Hr x).share=Hr x:=by
 simp only[Hr,cR, @b0 _ bk bk (λ_=>sc _)]
theorem azj (x:aAx):(Lp x).share=Hr x:=by
 simp only[Lp,Hr,cR, @b0 _ hh bk (λ_=>AF _)]
theorem azk (x:aAx):(Lp x).c8=true:=by
 simp only[Lp,I.c8,I.gJ,Bool.and_self, @jZ _ hh (λ_=>Y8 _)]
def Lq (x:aAy):I:=.ag 2 (x.map hz)
def Hs (x:aAy):I:=.slice (x.map db)
theorem azl (x:aAy):(Hs x).share=Hs x:=by
 simp only[Hs,cR, @b0 _ db db (λ_=>yI _)]
theorem azm (x:aAy):(Lq x).share=Hs x:=by
 simp only[Lq,Hs,cR, @b0 _ hz db (λ_=>AG _)]
theorem azn (x:aAy):(Lq x).c8=true:=by
 simp only[Lq,I.c8,I.gJ,Bool.and_self, @jZ _ hz (λ_=>Y9 _)]
def Lr (x:aAz):I:=.ag 3 (x.map bH)
def Ht (x:aAz):I:=.slice (x.map bH)
theorem azo (x:aAz):(Ht x).share=Ht x:=by
 simp only[Ht,cR, @b0 _ bH bH (λ_=>pU _)]
theorem azp (x:aAz):(Lr x).share=Ht x:=by
 simp only[Lr,Ht,cR, @b0 _ bH bH (λ_=>pU _)]
theorem azq (x:aAz):(Lr x).c8=true:=by
 simp only[Lr,I.c8,I.gJ,Bool.and_self, @jZ _ bH (λ_=>Y_ _)]
def Ls (x:aAb):I:=.ag 1 (x.map aE)
theorem azr (x:aAb):(Ls x).share=Hm x:=by
 simp only[Ls,Hm,cR, @b0 _ aE aE (λ_=>jz _)]
theorem azs (x:aAb):(Ls x).c8=true:=by
 simp only[Ls,I.c8,I.gJ,Bool.and_self, @jZ _ aE (λ_=>DL _)]
def bF (x:ba):I:=.agg [.int .i64 x.cy,.int .i64 x.Part,.slice (x.bP.map a8)]
theorem wR (x:ba):(bF x).share=bF x:=by
 simp only[bF,cR, @b0 _ a8 a8 (λ_=>j7 _)]
def ey (x:ba):I:=.agg [.int .i64 x.cy,.int .i64 x.Part,.ag 1 (x.bP.map a8)]
theorem pe (x:ba):(ey x).share=bF x:=by
 simp only[ey,bF,cR, @b0 _ a8 a8 (λ_=>j7 _)]
theorem DM (x:ba):(ey x).c8=true:=by
 simp only[ey,I.c8,I.gJ,Bool.and_self, @jZ _ a8 (λ_=>Lk _)]
def f_ (x:bm):I:=.agg [.str x.Label,.int .i64 x.na,.int .i64 x.Second,.slice (x.State.map bF)]
theorem akS (x:bm):(f_ x).share=f_ x:=by
 simp only[f_,cR, @b0 _ bF bF (λ_=>wR _)]
def rj (x:aAA):I:=.slice (x.map bF)
theorem azt (x:aAA):(rj x).share=rj x:=by
 simp only[rj,cR, @b0 _ bF bF (λ_=>wR _)]
def df (x:bl):I:=.agg [.str x.Label,bF x.Next]
theorem DN (x:bl):(df x).share=df x:=by
 simp only[df,cR,wR]
def gm (x:aAC):I:=.slice (x.map df)
theorem azu (x:aAC):(gm x).share=gm x:=by
 simp only[gm,cR, @b0 _ df df (λ_=>DN _)]
def hE (x:bl):I:=.agg [.str x.Label,ey x.Next]
theorem Hu (x:bl):(hE x).share=df x:=by
 simp only[hE,df,cR,pe]
theorem akT (x:bl):(hE x).c8=true:=by
 simp only[hE,I.c8,I.gJ,Bool.and_self,DM]
def Hv (x:aAC):I:=.ag 4 (x.map hE)
theorem azv (x:aAC):(Hv x).share=gm x:=by
 simp only[Hv,gm,cR, @b0 _ hE df (λ_=>Hu _)]
theorem azw (x:aAC):(Hv x).c8=true:=by
 simp only[Hv,I.c8,I.gJ,Bool.and_self, @jZ _ hE (λ_=>akT _)]
def fu (x:dR):I:=.agg [.int .i64 x.scope,.bool x.behind]
theorem Za (x:dR):(fu x).share=fu x:=by
 simp only[fu,cR]
theorem akU (x:dR):(fu x).c8=true:=by
 simp only[fu,I.c8,I.gJ,Bool.and_self]
def Hw (x:Bool):I:=.bool x
theorem azx (x:Bool):(Hw x).share=Hw x:=by
 simp only[Hw,cR]
theorem azy (x:Bool):(Hw x).c8=true:=by
 simp only[Hw,I.c8,I.gJ,Bool.and_self]
theorem akV:(∀a0 J,(dE.mk a0 J).term=a0)/\(∀a0 J,(dE.mk a0 J).args=J):=⟨λ_ _=>rfl,λ_ _=>rfl⟩
mutual
def oe:dE->I
 | .mk a0 J=>.agg [dY a0,.slice (sd J)]
def sd:List dE->aAk
 |[]=>[]
 |y::r=>.ref (oe y)::sd r
end
def qu (x:dE):I:=.ref (oe x)
theorem Zb:∀l,sd l=l.map qu
 |[]=>by simp only[sd,map_nil]
 |y::r=>by simp only[sd,map_cons,Zb r,qu]
theorem akW (x:dE):oe x= .agg [dY x.term,.slice (x.args.map qu)]:=by
 cases x;simp only[oe,Zb,dE.term,dE.args]
mutual
theorem Zc:∀x:dE,(oe x).share=oe x
 | .mk a0 J=>by simp only[oe,cR,I.share,I.shares,Zd J,Ho]
theorem Zd:∀l:List dE,I.shares (sd l)=sd l
 |[]=>by simp only[sd,I.shares]
 |y::r=>by simp only[sd,I.shares,I.share,Zc y,Zd r]
end
theorem akX (x:dE):(qu x).share=qu x:=by simp only[qu,I.share,Zc]
mutual
def yJ:dE->I
 | .mk a0 J=>.agg [dY a0,.ag 1 (tw J)]
def tw:List dE->aAk
 |[]=>[]
 |y::r=>.aP (yJ y)::tw r
end
def l7 (x:dE):I:=.aP (yJ x)
theorem Ze:∀l,tw l=l.map l7
 |[]=>by simp only[tw,map_nil]
 |y::r=>by simp only[tw,map_cons,Ze r,l7]
theorem akY (x:dE):yJ x= .agg [dY x.term,.ag 1 (x.args.map l7)]:=by
 cases x;simp only[yJ,Ze,dE.term,dE.args]
mutual
theorem Zf:∀x:dE,(yJ x).share=oe x
 | .mk a0 J=>by simp only[yJ,oe,cR,I.share,I.shares,Zg J,Ho]
theorem Zg:∀l:List dE,I.shares (tw l)=sd l
 |[]=>by simp only[tw,sd,I.shares]
 |y::r=>by simp only[tw,sd,I.shares,I.share,Zf y,Zg r]
end
theorem Zh (x:dE):(l7 x).share=qu x:=by simp only[l7,qu,I.share,Zf]
mutual
theorem Zi:∀x:dE,(yJ x).c8=true
 | .mk a0 J=>by simp[yJ,I.c8,I.gJ,Zj J,dY]
theorem Zj:∀l:List dE,I.gJ (tw l)=true
 |[]=>by simp only[tw,I.gJ]
 |y::r=>by simp only[tw,I.gJ,I.c8,Zi y,Zj r,Bool.and_self]
end
theorem akZ (x:dE):(l7 x).c8=true:=by simp only[l7,I.c8,Zi]
def Lt (x:List dE):I:=.ag 1 (x.map l7)
def Hx (x:List dE):I:=.slice (x.map qu)
theorem azz (x:List dE):(Hx x).share=Hx x:=by
 simp only[Hx,cR, @b0 _ qu qu (λ_=>akX _)]
theorem azA (x:List dE):(Lt x).share=Hx x:=by
 simp only[Lt,Hx,cR, @b0 _ l7 qu (λ_=>Zh _)]
theorem azB (x:List dE):(Lt x).c8=true:=by
 simp only[Lt,I.c8,I.gJ,Bool.and_self, @jZ _ l7 (λ_=>akZ _)]
def fy (x:bm):I:=.agg [.str x.Label,.int .i64 x.na,.int .i64 x.Second,.ag 3 (x.State.map ey)]
theorem Zk (x:bm):(fy x).share=f_ x:=by
 simp only[fy,f_,cR, @b0 _ ey bF (λ_=>pe _)]
theorem azC (x:bm):(fy x).c8=true:=by
 simp only[fy,I.c8,I.gJ,Bool.and_self, @jZ _ ey (λ_=>DM _)]
def Lu (x:aAA):I:=.ag 3 (x.map ey)
theorem azD (x:aAA):(Lu x).share=rj x:=by
 simp only[Lu,rj,cR, @b0 _ ey bF (λ_=>pe _)]
theorem azE (x:aAA):(Lu x).c8=true:=by
 simp only[Lu,I.c8,I.gJ,Bool.and_self, @jZ _ ey (λ_=>DM _)]
def wS (x:Bool×bm):I:=cond x.1 (.agg [.str x.2.Label,.int .i64 x.2.na,.int .i64 x.2.Second,.hole]) (fy x.2)
theorem RP:(wS∘λx=>(false,x))=fy:=rfl
theorem Zl (x:bm):wS (true,x)= .agg [.str x.Label,.int .i64 x.na,.int .i64 x.Second,.hole]:=rfl
theorem Zm {x:Bool×bm} (h:ME (!x.1)=some ()):wS x=fy x.2:=by
 obtain⟨b,x⟩:=x;cases b
 .rfl
 .cases h
theorem azF (x:Bool×bm):(wS x).wd=4:=by
 obtain⟨b,x⟩:=x;cases b<;>rfl
noncomputable def ak0:aA:=bT (bS 12 [0] Tryz.f184 [[0,1],[1],[1,10],[4],[4]])
noncomputable def c139:aA:=bT (bS 27 [0] Tryz.f139 [[0,1],[0,1],[0,1,11],[4],[0,1,5],[0,1,5,15],[0,1,5],[0,1,5,25],[4],[0,1,5],[4]])
noncomputable def ak1:aA:=bT (bS 19 [0] Tryz.f96 [[1,2],[1,2],[1,2,11],[4],[1],[1,17],[4],[4]])
noncomputable def ak2:aA:=bT (bS 27 [0] Tryz.f65 [[0,1],[0,1],[0,1,11],[4],[0,1,5],[0,1,5,15],[0,1,5],[0,1,5,25],[4],[0,1,5],[4]])
noncomputable def Hy:aA:=bT (bS 19 [0] Tryz.f44 [[1,2],[1,2],[1,2,11],[4],[1],[1,17],[4],[4]])
noncomputable def ak3:aA:=bT (bS 27 [0] Tryz.f17 [[0,1],[0,1],[0,1,11],[4],[0,1,5],[0,1,5,15],[0,1,5],[0,1,5,25],[4],[0,1,5],[4]])
noncomputable def ak4:aA:=bT (bS 12 [0] Tryz.f47 [[0,1],[1],[1,10],[4],[4]])
noncomputable def ak5:aA:=bT (bS 12 [0] Tryz.f45 [[1,2],[1],[1,10],[4],[4]])
noncomputable def RQ:aA:=bT (bS 27 [0] Tryz.f18 [[0,1],[0,1],[0,1,11],[4],[0,1,5],[0,1,5,15],[0,1,5],[0,1,5,25],[4],[0,1,5],[4]])
noncomputable def c46:aA:=bT (bS 27 [0] Tryz.f46 [[1,2],[1,2],[1,2,11],[4],[1,2],[1,2,18],[4],[1],[1,25],[4],[4]])
noncomputable def ak6:aA:=bT (bS 27 [0] Tryz.f19 [[0,1],[0,1],[0,1,11],[4],[0,1,5],[0,1,5,15],[0,1,5],[0,1,5,25],[4],[0,1,5],[4]])
noncomputable def c20:aA:=bT (bS 28 [0] Tryz.f20 [[0,1],[0,1],[0,1,11],[4],[0,1,5],[0,1,5,15],[0,1,5],[0,1,5,26],[4],[0,1,5],[4]])
noncomputable def c4:aA:=bT (bS 36 [0] Tryz.f4 [[1,2],[1,2],[1,2,10],[4],[1,2],[1,2,16],[4],[1,2],[1,2,22],[4],[1,2],[1,2,28],[4],[1],[1,34],[4],[4]])
noncomputable def c21:aA:=bT (bS 12 [0] Tryz.f21 [[1,2],[1],[1,10],[4],[4]])
noncomputable def c5:aA:=bT (bS 27 [0] Tryz.f5 [[0,1],[0,1],[0,1,11],[4],[0,1,5],[0,1,5,15],[0,1,5],[0,1,5,25],[4],[0,1,5],[4]])
noncomputable def c222:aA:=bT (bS 11 [0] Tryz.f222 [[1,2],[1,2,3],[1,2,3],[2,3],[2]])
noncomputable def ak7:aA:=bT (bS 23 [0] Tryz.f192 [[0],[0,3],[0,3,4],[0,3,4,11],[0,3,4],[0,3,4],[2]])
noncomputable def c152:aA:=bT (bS 23 [0] Tryz.f152 [[0],[0,3],[0,3,4],[0,3,4,11],[0,3,4],[0,3,4],[2]])
noncomputable def ak8:aA:=bT (bS 18 [0] Tryz.f112 [[1,2],[1,2,3],[1,2,3],[1,2,3],[1,2,3],[2,3],[2]])
noncomputable def ak9:aA:=bT (bS 23 [0] Tryz.f74 [[0],[0,3],[0,3,4],[0,3,4,11],[0,3,4],[0,3,4],[2]])
noncomputable def c51:aA:=bT (bS 15 [0] Tryz.f51 [[1,2],[1,2,3],[1,2,3],[1,2,3],[2,3],[2]])
noncomputable def RR:aA:=bT (bS 23 [0] Tryz.f26 [[0],[0,3],[0,3,4],[0,3,4,11],[0,3,4],[0,3,4],[2]])
noncomputable def ak_:aA:=bT (bS 22 [0] Tryz.f54 [[0],[0,3],[0,3,4],[0,3,4,11],[0,3,4],[0,3,4],[2]])
noncomputable def ala:aA:=bT (bS 12 [0] Tryz.f52 [[1,2],[1,2,3],[1,2,3],[2,3],[2]])
noncomputable def alb:aA:=bT (bS 23 [0] Tryz.f27 [[0],[0,3],[0,3,4],[0,3,4,11],[0,3,4],[0,3,4],[2]])
noncomputable def c53:aA:=bT (bS 14 [0] Tryz.f53 [[1,2],[1,2,3],[1,2,3],[1,2,3],[2,3],[2]])
noncomputable def c28:aA:=bT (bS 23 [0] Tryz.f28 [[0],[0,3],[0,3,4],[0,3,4,11],[0,3,4],[0,3,4],[2]])
noncomputable def alc:aA:=bT (bS 22 [0] Tryz.f29 [[0],[0,3],[0,3,4],[0,3,4,11],[0,3,4],[0,3,4],[2]])
noncomputable def NV:aA:=bT (bS 25 [0] Tryz.f7 [[1,2],[1,2,3],[1,2,3],[1,2,3],[1,2,3],[1,2,3],[2,3],[2]])
noncomputable def ald:aA:=bT (bS 15 [0] Tryz.f30 [[1,2],[1,2,3],[1,2,3],[1,2,3],[2,3],[2]])
noncomputable def iu:aA:=bT (bS 23 [0] Tryz.f8 [[0],[0,3],[0,3,4],[0,3,4,11],[0,3,4],[0,3,4],[2]])
noncomputable def ale:aA:=bT (bS 9 [0] Tryz.f185 [[0],[2]])
noncomputable def alf:aA:=bT (bS 9 [0] Tryz.f186 [[0],[2]])
noncomputable def alg:aA:=bT (bS 35 [0] Tryz.f140 [[0],[0,16],[2],[0,3],[0,3,20],[0,3,34],[2],[0,3],[2]])
noncomputable def alh:aA:=bT (bS 15 [0,1,2] Tryz.f101 [[0,1,2],[6]])
noncomputable def ali:aA:=bT (bS 13 [0] Tryz.f189 [[0],[6],[6,7],[6,7],[6,7],[2],[11],[2],[2]])
noncomputable def alj:aA:=bT (bS 30 [0] Tryz.f187 [[0],[0,12],[2],[0,3],[0,3,4],[0,3,4,16],[0,3,4,20],[2],[0,3,4],[0,3,4],[2]])
noncomputable def alk:aA:=bT (bS 73 [0] Tryz.f217 [[0],[0,6],[0,6,7],[0,6,7],[2],[0,6,30],[2],[0,6,37],[2],[0,6,51],[2],[0,66],[2],[2]])
noncomputable def alm:aA:=bT (bS 18 [0] Tryz.f144 [[0,1],[0,1,5],[0,1,5,7],[0,1,5],[0,1,5],[4]])
noncomputable def aln:aA:=bT (bS 38 [0,1] Tryz.f102 [[0,1],[0,1,5],[0,1,5,6],[0,1,5,6,13],[0,1,5,6,34],[0,1,5,6],[0,1,5,6],[4]])
noncomputable def alo:aA:=bT (bS 39 [0,1] Tryz.f251 [[0,1],[0,1,8],[0,1,8,9],[4],[0,1,8,16],[4],[0,8,25],[4],[0,32],[4],[4]])
noncomputable def alp:aA:=bT (bS 11 [0] Tryz.f252 [[0],[6],[6,7],[2],[9],[2],[2]])
noncomputable def c218:aA:=bT (bS 38 [0,1,2] Tryz.f218 [[0,1,2],[0,1,12],[6],[0,1,7],[0,1,7,8],[0,1,7,8,16],[0,1,7,8,28],[6],[0,1,7,8],[0,1,7,8],[6]])
def bb (r:List cB) (k:aAf) (c:aA):aA:=.seq (.eh r (some k)) c
def se (r:List cB) (a:aAd) (k:aAf) (c:aA):aA:=.seq (.jX r a (some k)) c
abbrev R (x:Int):I:=.int .i64 x
abbrev ej {α:Type} (e:α->I) (x:α):I:=.ref (e x)
abbrev ad {α:Type} (e:α->I) (x:List α):I:=.slice (x.map e)
abbrev eU (d t:Nat) (o:e2):cB:=⟨some d,o,some (t,true)⟩
abbrev ij (d t:Nat) (o:e2):cB:=⟨some d,o,some (t,false)⟩
abbrev azG (n:Nat) (k:aAf) (f:Func) (c:aA):Prop:=fQ ⟨n,k⟩ (f.body.getD .skip)=some c.strip
def Zn:aA:=.cond (.t 28) (bb [ie 6 3] [6] .ret) .skip
def Zo:aA:=.cond (.t 51) (bb [ie 6 4] [6] .ret) .skip
def alq:aA:=.cond (.t 57) (bb [aN 59 8,dy 60 .gtr 2 59 2,aN 61 60,ij 62 61 (.ht (.t 8)),ij 63 61 (.eP .gtr 2 (.t 62) (.c (.int .i64 0))),ij 64 61 (.ht (.t 63)),eU 65 64 (.hV 161 (.t 7) 2),eU 66 64 (.ld 9 (.t 65)),⟨some 67,.eP .eql 9 (.t 66) (.c (.str [116,97,117])),some (64,true)⟩,ij 68 61 (.pick (.t 64) (.t 67) (.c (.bool false))),ro 69 (.pick (.t 61) (.c (.bool true)) (.t 68))] [1,2,7,8,69] (.cond (.t 69) (bb [ie 6 5] [6] .ret) .skip)) (bb [dy 71 .eql 2 56 3,cb 70 71] [0,1,2,7,8,56,70] (.cond (.t 70) (bb [aN 72 8,dy 73 .neq 2 72 1] [1,2,7,8,73] (.cond (.t 73) (bb [ie 6 5] [6] .ret) .skip)) (bb [dy 75 .eql 2 56 5,cb 74 75] [0,1,2,7,8,74] (.cond (.t 74) (bb [aN 76 8,aN 77 0,dS 78 161 7 1,cw 79 2 78,gw 80 33 77 79,dS 81 99 80 1,cw 82 2 81,iP 83 .neq 2 76 82] [1,2,7,8,83] (.cond (.t 83) (bb [ie 6 5] [6] .ret) .skip)) .skip))))
def Zp:aA:=.cond (.t 102) (bb [ie 6 6] [6] .ret) .skip
def Zq:aA:=.seq (bb [aN 113 10,aN 114 8,iP 115 .lss 2 113 114] [7,8,9,10,115] (.cond (.t 115) .skip (.exit 1))) (.seq (.block 2 (bb [dS 118 161 7 3,cw 119 159 118,aN 120 10,gw 121 159 119 120,cw 122 212 121,aN 123 9,ro 124 (.call (.f 218) [(.t 122),(.t 123),(.c (.int .i64 15))]),q2 125 124] [7,8,9,10,125] (.cond (.t 125) (bb [ie 6 8] [6] .ret) .skip))) (.eh [aN 116 10,dy 117 .add 2 116 1,cb 10 117] (some [7,8,9,10])))
def Zr:aA:=.seq (bb [dS 84 161 7 0,cw 85 2 84,dy 86 .eql 2 85 5,aN 87 86,eU 88 87 (.ht (.t 2)),eU 89 87 (.eP .eql 2 (.t 88) (.c (.int .i64 0))),eU 90 87 (.ht (.t 89)),ij 91 90 (.ht (.t 1)),ij 92 90 (.mA (.t 91)),ij 93 90 (.hV 99 (.t 92) 2),ij 94 90 (.ld 97 (.t 93)),ij 95 90 (.ht (.t 2)),ij 96 90 (.eP .sub 2 (.t 95) (.c (.int .i64 1))),ij 97 90 (.kg 97 (.t 94) (.t 96)),ij 98 90 (.hV 161 (.t 97) 0),ij 99 90 (.ld 2 (.t 98)),ij 100 90 (.eP .neq 2 (.t 99) (.c (.int .i64 1))),eU 101 87 (.pick (.t 90) (.c (.bool true)) (.t 100)),ro 102 (.pick (.t 87) (.t 101) (.c (.bool false)))] [1,2,7,8,102] Zp) (bb [aN 103 1,aN 104 2,j1 105 102 103 104,cb 9 105] [7,8,9] (.seq (bb [dS 106 161 7 0,cw 107 2 106,dy 108 .eql 2 107 4,aN 109 108,eU 110 109 (.ht (.t 9)),eU 111 109 (.eP .geq 2 (.t 110) (.c (.int .i64 6))),ro 112 (.pick (.t 109) (.t 111) (.c (.bool false)))] [7,8,9,112] (.cond (.t 112) (bb [ie 6 7] [6] .ret) .skip)) (.seq (bb [ie 10 0] [7,8,9,10] (.block 1 (.loop Zq))) (bb [ie 6 0] [6] .ret))))
def alr:aA:=.seq (bb [dS 29 161 7 0,cw 30 2 29,dy 31 .eql 2 30 4,aN 32 31,eU 33 32 (.hV 161 (.t 7) 1),eU 34 32 (.ld 2 (.t 33)),⟨some 35,.call (.f 101) [(.t 34),(.c (.int .i64 1)),(.c (.int .i64 7))],some (32,true)⟩,eU 36 32 (.un .not (.t 35)),ro 37 (.pick (.t 32) (.t 36) (.c (.bool false))),aN 38 37,ij 39 38 (.hV 161 (.t 7) 0),ij 40 38 (.ld 2 (.t 39)),ij 41 38 (.eP .eql 2 (.t 40) (.c (.int .i64 5))),ij 42 38 (.ht (.t 41)),eU 43 42 (.hV 161 (.t 7) 1),eU 44 42 (.ld 2 (.t 43)),eU 45 42 (.ht (.t 0)),eU 46 42 (.len 33 (.t 45)),eU 47 42 (.eP .sub 2 (.t 46) (.c (.int .i64 1))),⟨some 48,.call (.f 101) [(.t 44),(.c (.int .i64 0)),(.t 47)],some (42,true)⟩,eU 49 42 (.un .not (.t 48)),ij 50 38 (.pick (.t 42) (.t 49) (.c (.bool false))),ro 51 (.pick (.t 38) (.c (.bool true)) (.t 50))] [0,1,2,7,51] Zo) (bb [dS 52 161 7 3,cw 53 159 52,jw 54 159 53,cb 8 54] [0,1,2,7,8] (.seq (bb [dS 55 161 7 0,cw 56 2 55] [0,1,2,7,8,56] (.block 0 (bb [dy 58 .eql 2 56 1,cb 57 58] [0,1,2,7,8,56,57] alq))) Zr))
def als:aA:=bb [ie 6 0] [0,1,2] (bb [aN 11 1,nH 12 11,dS 13 99 12 2,cw 14 97 13,aN 15 2,gw 16 97 14 15,cw 17 161 16,o7 7 161,jJ 161 7 17] [0,1,2,7] (.seq (bb [iw 18 217 7,q2 19 18] [0,1,2,7,19] (.cond (.t 19) (bb [ie 6 2] [6] .ret) .skip)) (.seq (bb [dS 20 161 7 0,cw 21 2 20,dy 22 .eql 2 21 1,aN 23 22,eU 24 23 (.hV 161 (.t 7) 2),eU 25 23 (.ld 9 (.t 24)),⟨some 26,.call (.f 140) [(.t 25)],some (23,true)⟩,eU 27 23 (.un .not (.t 26)),ro 28 (.pick (.t 23) (.t 27) (.c (.bool false)))] [0,1,2,7,28] Zn) alr)))
noncomputable def c141:aA:=bT (bS 31 [0,1] Tryz.f141 [[0,1],[0,1,13],[4,5],[0,1,6],[0,1,6,20],[0,1,6,7],[0,1,6,7,28],[4,5],[0,1,6],[4,5]])
noncomputable def alu:aA:=bT (bS 70 [0] Tryz.f97 [[0],[0,15],[2],[0,3],[0,3,19],[0,3,37],[2],[0,3,4],[0,3,4,40],[0,3,4,53],[2],[0,3,4],[0,3],[0,5],[0,5,57],[0,5,7],[0,5,69],[2],[0,5],[2]])
noncomputable def alv:aA:=bT (bS 16 [0] Tryz.f103 [[0],[0,3],[0,3,7],[0,3,15],[2],[0,3],[2]])
noncomputable def alw:aA:=bT (bS 64 [0] Tryz.f98 [[0],[0,18],[2],[0,3],[0,3,25],[0,3,4],[0,3,4,44],[2],[0,3,63],[2],[0,3],[2]])
def alx:aA:=bb [n2 2 false] [0] (bb [aN 3 0,iw 4 140 3,aN 5 4,eU 6 5 (.ht (.t 0)),⟨some 7,.eP .neq 9 (.t 6) (.c (.str [116,97,117])),some (5,true)⟩,ro 8 (.pick (.t 5) (.t 7) (.c (.bool false))),cb 2 8] [2] .ret)
noncomputable def aly:aA:=bT (bS 101 [0] Tryz.f99 [[0],[0,8],[2],[0,3],[0,3,12],[0,3,4],[0,3,4,41],[2],[0,3,4,76],[2],[0,3,4,5],[0,3,4,5,80],[0,3,4,5,100],[2],[0,3,4,5],[0,3],[2]])
noncomputable def c143:aA:=bT (bS 16 [0] Tryz.f143 [[0],[0,3],[0,3,7],[0,3,15],[2],[0,3],[2]])
noncomputable def alz:aA:=bT (bS 28 [0] Tryz.f100 [[0],[0,11],[2],[0,3],[0,3,15],[0,3,27],[2],[0,3],[2]])
noncomputable def alA:aA:=bT (bS 30 [0] Tryz.f66 [[0],[0,8],[2],[0,11],[2],[0,17],[2],[0,23],[2],[29],[2],[2]])
noncomputable def alB:aA:=bT (bS 6 [0] Tryz.f48 [[0],[2]])
noncomputable def alC:aA:=bT (bS 62 [0,1] Tryz.f67 [[0,1],[0,1,14],[4],[1,5],[1,5,43],[4],[4]])
noncomputable def c49:aA:=bT (bS 29 [0,1] Tryz.f49 [[0,1],[0,1,13],[4],[0,1,5],[0,1,5,17],[0,1,5,28],[4],[0,1,5],[4]])
noncomputable def RS:aA:=bT (bS 14 [0,1] Tryz.f22 [[0,1],[13],[4],[4]])
noncomputable def alD:aA:=bT (bS 6 [0] Tryz.f106 [[0],[2]])
noncomputable def alE:aA:=bT (bS 4 [0] Tryz.f219 [[0],[3],[2],[2]])
noncomputable def alF:aA:=bT (bS 18 [0] Tryz.f220 [[0,1],[0,1,5],[0,1,5,7],[0,1,5],[0,1,5],[4]])
noncomputable def alG:aA:=bT (bS 67 [0,1,2] Tryz.f221 [[0,1,2],[1,2,7],[1,2,7,8],[6],[1,2,7,14],[6],[1,2,7,21],[6],[1,2,7,27],[6],[1,2,7,33],[6],[1,2,7,39],[6],[1,2,7,45],[6],[1,2,51],[6],[6]])
noncomputable def alH:aA:=bT (bS 60 [0,1,2] Tryz.f190 [[0,1,2],[0,1,2,13],[0,1,2,13,14],[6],[0,1,2,13,21],[6],[0,1,2,31],[6],[0,1,2,7],[0,2,7,8],[6]])
noncomputable def alI:aA:=bT (bS 8 [0,1] Tryz.f147 [[0,1],[4]])
noncomputable def c145:aA:=bT (bS 24 [0,1] Tryz.f145 [[0,1],[0,1,5],[0,1,5,6],[0,1,5,6,11],[0,1,5,6],[0,1,5,6],[4]])
def Zs:aA:=.eh [aN 22 3,aN 23 5,ro 24 (.eP .add 2 (.c (.int .i64 48)) (.t 23)),JM 25 2 5 24,uG 26 116 25,uH 27 116 116 22 26,cb 3 27] (some [0,3,4])
def Zt:aA:=.seq (bb [aN 12 4,dy 13 .neq 2 12 0] [0,3,4,13] (.cond (.t 13) .skip (.exit 0))) (.seq (.block 1 (bb [aN 16 4,dy 17 .rem 2 16 10,cb 5 17] [0,3,4,5] (.seq (bb [aN 18 5,dy 19 .lss 2 18 0] [0,3,4,5,19] (.cond (.t 19) (.eh [aN 20 5,ro 21 (.un .neg (.t 20)),cb 5 21] (some [0,3,4,5])) .skip)) Zs))) (.eh [aN 14 4,dy 15 .quo 2 14 10,cb 4 15] (some [0,3,4])))
def Zu:aA:=.seq (bb [aN 37 7,dy 38 .geq 3 37 0] [3,6,7,38] (.cond (.t 38) .skip (.exit 2))) (.seq (.block 3 (.eh [aN 41 6,aN 42 3,aN 43 7,gw 44 116 42 43,cw 45 5 44,uG 46 116 45,uH 47 116 116 41 46,cb 6 47] (some [3,6,7]))) (.eh [aN 39 7,dy 40 .sub 3 39 1,cb 7 40] (some [3,6,7])))
def Zv:aA:=bb [ro 33 (.dM 116 0 []),cb 6 33] [3,6] (.seq (bb [aN 34 3,jw 35 116 34,dy 36 .sub 3 35 1,cb 7 36] [3,6,7] (.block 2 (.loop Zu))) (bb [aN 48 6,JM 49 116 9 48,cb 2 49] [2] .ret))
def alJ:aA:=bb [ro 2 (.hN (.c (.str [])))] [0] (.seq (bb [aN 8 0,dy 9 .eql 2 8 0] [0,9] (.cond (.t 9) (bb [ro 2 (.hN (.c (.str [48])))] [2] .ret) .skip)) (bb [ro 10 (.dM 116 0 []),cb 3 10] [0,3] (.seq (bb [aN 11 0,cb 4 11] [0,3,4] (.block 0 (.loop Zt))) (.seq (bb [aN 28 0,dy 29 .lss 2 28 0] [3,29] (.cond (.t 29) (.eh [aN 30 3,ro 31 (.dM 116 1 [(0,(.c (.int .u8 45)))]),uH 32 116 116 30 31,cb 3 32] (some [3])) .skip)) Zv))))
def Zw:aA:=.eh [aN 18 3,aN 19 0,aN 20 4,gw 21 52 19 20,cw 22 2 21,iw 23 191 22,iP 24 .add 9 18 23,cb 3 24] (some [0,3,4])
def Zx:aA:=.seq (bb [aN 8 4,aN 9 0,jw 10 52 9,iP 11 .lss 3 8 10] [0,3,4,11] (.cond (.t 11) .skip (.exit 0))) (.seq (.block 1 (.seq (bb [aN 14 4,dy 15 .gtr 3 14 0] [0,3,4,15] (.cond (.t 15) (.eh [aN 16 3,ro 17 (.eP .add 9 (.t 16) (.c (.str [44]))),cb 3 17] (some [0,3,4])) .skip)) Zw)) (.eh [aN 12 4,dy 13 .add 3 12 1,cb 4 13] (some [0,3,4])))
def alK:aA:=bb [ro 2 (.hN (.c (.str [])))] [0] (.seq (bb [aN 5 0,jw 6 52 5,dy 7 .eql 3 6 0] [0,7] (.cond (.t 7) (bb [ro 2 (.hN (.c (.str [45])))] [2] .ret) .skip)) (bb [ro 3 (.hN (.c (.str [])))] [0,3] (.seq (bb [ie 4 0] [0,3,4] (.block 0 (.loop Zx))) (bb [aN 25 3,cb 2 25] [2] .ret))))
def alL:aA:=bb [ro 4 (.hN (.c (.str [])))] [0,1] (.seq (bb [aN 5 1,jw 6 52 5,dy 7 .eql 3 6 0] [0,1,7] (.cond (.t 7) (bb [aN 8 0,cb 4 8] [4] .ret) .skip)) (bb [aN 9 0,ro 10 (.eP .add 9 (.t 9) (.c (.str [40]))),aN 11 1,iw 12 151 11,iP 13 .add 9 10 12,ro 14 (.eP .add 9 (.t 13) (.c (.str [41]))),cb 4 14] [4] .ret))
noncomputable def c109:aA:=bT (bS 26 [0,1] Tryz.f109 [[0,1],[0,1,10],[4],[0,1,5],[0,1,5,14],[0,1,5,25],[4],[0,1,5],[4]])
noncomputable def c148:aA:=bT (bS 36 [0,1] Tryz.f148 [[0,1],[4]])
noncomputable def c146:aA:=bT (bS 33 [0,1] Tryz.f146 [[0,3],[0,3,5],[0,3,5,9],[0,3,5,27],[4],[0,3,5],[4]])
def Zy:aA:=se [aN 60 4,dS 61 161 12 2,cw 62 9 61,dS 63 161 12 3,cw 64 159 63,aN 65 3,j1 66 145 64 65,j1 67 111 62 66,cw 68 65 13,⟨some 69,.shr (.gB 126 [(0,(.t 67)),(1,(.t 68))]),none⟩,j1 70 146 60 69,cb 10 70] [[],[],[1],[],[3],[],[4,5],[2,6,6],[],[7,8],[0,9,7],[10,10,0,1,2,3,4,5,6,7,8,9,10]] [10] .ret
def alM:aA:=.seq (bb [aN 38 11,aN 39 2,dy 40 .add 2 39 1,gw 41 97 38 40,dS 42 161 41 0,cw 43 2 42,dy 44 .eql 2 43 5] [2,3,4,11,12,13,44] (.cond (.t 44) (.jX [aN 45 11,aN 46 2,dy 47 .add 2 46 1,gw 48 97 45 47,dS 49 161 48 1,cw 50 2 49,aN 51 11,aN 52 2,dy 53 .add 2 52 1,gw 54 97 51 53,dS 55 161 54 3,cw 56 159 55,aN 57 3,j1 58 145 56 57,ro 59 (.gB 65 [(0,(.t 50)),(2,(.t 58))]),jJ 65 13 59] [[],[],[1],[0,2],[3],[4],[],[],[7],[6,8],[9],[10],[],[11,12],[5,13],[14,13,0,1,2,3,4,5,6,7,8,9,10,11,12,13,14]] (some [3,4,12,13])) .skip)) Zy
def Zz:aA:=.seq (bb [aN 107 14,dS 108 161 12 1,cw 109 2 108,iP 110 .leq 2 107 109] [0,1,2,3,4,12,14,110] (.cond (.t 110) .skip (.exit 1))) (.seq (.block 2 (.eh [aN 113 0,aN 114 1,aN 115 2,dy 116 .add 2 115 1,aN 117 3,iw 118 106 117,aN 119 14,uG 120 52 119,⟨some 121,.shr (.app 52 52 (.t 118) (.t 120)),none⟩,aN 122 4,ro 123 (.call (.f 104) [(.t 113),(.t 114),(.t 116),(.t 121),(.t 122)]),cb 4 123] (some [0,1,2,3,4,12,14]))) (.eh [aN 111 14,dy 112 .add 2 111 1,cb 14 112] (some [0,1,2,3,4,12,14])))
def alN:aA:=bb [dy 90 .eql 2 29 3,cb 89 90] [0,1,2,3,4,12,29,89] (.cond (.t 89) (bb [dS 91 161 12 3,cw 92 159 91,ro 93 (.kg 159 (.t 92) (.c (.int .i64 0))),cw 94 212 93,aN 95 3,j1 96 147 94 95,dy 97 .neq 2 96 0] [0,1,2,3,4,97] (.cond (.t 97) (bb [aN 98 0,aN 99 1,aN 100 2,dy 101 .add 2 100 1,aN 102 3,aN 103 4,ro 104 (.call (.f 104) [(.t 98),(.t 99),(.t 101),(.t 102),(.t 103)]),cb 10 104] [10] .ret) .skip)) (bb [dy 106 .eql 2 29 4,cb 105 106] [0,1,2,3,4,12,105] (.cond (.t 105) (bb [ie 14 0] [0,1,2,3,4,12,14] (.block 1 (.loop Zz))) .skip)))
def alO:aA:=.cond (.t 30) (bb [aN 32 1,aN 33 2,dy 34 .add 2 33 1,aN 35 3,iw 36 106 35,ro 37 (.gB 65 [(0,(.t 32)),(1,(.t 34)),(2,(.t 36))]),o7 13 65,jJ 65 13 37] [2,3,4,11,12,13] alM) (bb [dy 72 .eql 2 29 2,cb 71 72] [0,1,2,3,4,11,12,29,71] (.cond (.t 71) (bb [aN 73 0,aN 74 1,aN 75 2,dy 76 .add 2 75 1,aN 77 3,aN 78 4,ro 79 (.call (.f 104) [(.t 73),(.t 74),(.t 76),(.t 77),(.t 78)]),cb 4 79] [0,1,2,3,4,11] (bb [aN 80 0,aN 81 1,aN 82 11,aN 83 2,dy 84 .add 2 83 1,j1 85 144 82 84,aN 86 3,aN 87 4,ro 88 (.call (.f 104) [(.t 80),(.t 81),(.t 85),(.t 86),(.t 87)]),cb 10 88] [10] .ret)) alN))
def ZA:aA:=bb [aN 124 4,cb 10 124] [10] .ret
def alP:aA:=bb [aN 15 0,aN 16 1,gw 17 33 15 16,dS 18 99 17 2,cw 19 97 18,cb 11 19] [0,1,2,3,4,11] (bb [aN 20 11,aN 21 2,gw 22 97 20 21,cw 23 161 22,o7 12 161,jJ 161 12 23] [0,1,2,3,4,11,12] (.seq (bb [aN 24 4,jw 25 122 24,dy 26 .gtr 3 25 200] [0,1,2,3,4,11,12,26] (.cond (.t 26) (bb [aN 27 4,cb 10 27] [10] .ret) .skip)) (.seq (bb [dS 28 161 12 0,cw 29 2 28] [0,1,2,3,4,11,12,29] (.block 0 (bb [dy 31 .eql 2 29 1,cb 30 31] [0,1,2,3,4,11,12,29,30] alO))) ZA)))
def alQ:aA:=bb [n3 10] [0,1,2,3,4] alP
noncomputable def alR:aA:=bT (bS 26 [0,1] Tryz.f68 [[0,1],[6],[4,5]])
noncomputable def c105:aA:=bT (bS 17 [0] Tryz.f105 [[0],[0,3],[0,3,7],[0,3,13],[2],[0,3],[2]])
noncomputable def alS:aA:=bT (bS 7 [0] Tryz.f69 [[0],[2]])
noncomputable def alT:aA:=bT (bS 19 [0,1] Tryz.f25 [[0,1],[0,1,5],[0,1,5,9],[0,1,5,17],[4],[0,1,5],[4]])
noncomputable def c70:aA:=bT (bS 33 [0] Tryz.f70 [[0],[0,3],[0,3,4],[0,3,4,9],[0,3,4],[0,3,4],[2]])
def c72:aA:=bb [ro 4 (.hN (.c (.str [])))] [0,1] (.seq (se [aN 5 0,nH 6 5,dS 7 37 6 4,cw 8 25 7,aN 9 1,iw 10 69 9,j1 11 25 8 10,dy 12 .geq 2 11 0] [[],[0],[1],[2],[],[4],[3,5,5],[6]] [1,12] (.cond (.t 12) (bb [ro 4 (.hN (.c (.str [116,97,117])))] [4] .ret) .skip)) (bb [aN 13 1,cb 4 13] [4] .ret))
noncomputable def c107:aA:=bT (bS 25 [0,1] Tryz.f107 [[0,1],[0,1,10],[4],[0,1,5],[0,1,5,14],[0,1,5,24],[4],[0,1,5],[4]])
noncomputable def alU:aA:=bT (bS 48 [0,1] Tryz.f71 [[0,3],[0,3,5],[0,3,5,10],[0,3,5,6],[0,3,5,42],[4],[0,3,5],[4]])
noncomputable def alV:aA:=bT (bS 35 [0,1] Tryz.f149 [[0,1],[0,1,5],[0,1,5,6],[0,1,5,6,7],[0,1,5,6,7,12],[0,1,5,6,7,19],[0,1,5,7],[0,1,5,6,7],[0,1,5,6,7],[4]])
noncomputable def alW:aA:=bT (bS 62 [0] Tryz.f150 [[0],[0,4],[0,4,14],[0,4],[0,4,36],[2,3],[0,4,5],[0,4,5,6],[0,4,5,6,41],[0,4,5,6,48],[2,3],[0,4,5,6],[0,4,5,6],[5,58],[5],[2,3]])
noncomputable def alX:aA:=bT (bS 70 [0] Tryz.f108 [[0],[0,4],[0,4,15],[2,3],[0,4,31],[2,3],[5],[5,6],[5,6,7],[5,6,7,44],[5,6,7,8,9],[5,6,7,8,61],[2,3],[5,6,7],[5,6,7],[2,3]])
noncomputable def alY:aA:=bT (bS 42 [0,1,2] Tryz.f110 [[0,1,2],[0,1,2,10],[6],[0,1,2,7],[0,1,2,7,18],[0,1,2,7,36],[6],[0,1,2,7],[6]])
noncomputable def alZ:aA:=bT (bS 49 [0,1,2] Tryz.f73 [[0,1,2],[0,1,2,7],[0,1,2,7,9],[0,1,2,7,25],[6],[0,7,11],[7,11,45],[6],[6]])
def al0:aA:=.seq (.block 1 (se [aN 30 0,nH 31 30,dS 32 37 31 0,cw 33 33 32,aN 34 1,aN 35 8,gw 36 39 34 35,j1 37 68 33 36,⟨some 29,.pG (.t 37),none⟩,km 38 29 0,km 39 29 1,cb 9 38,cb 10 39] [[],[0],[1],[2],[],[],[4,5],[3,6],[7],[8],[8],[9,7,0,1,2,3,4,5,6,7,8,9],[10,11,0,1,2,3,4,5,6,7,8,9,10,11]] [0,1,6,7,8,9,10] (.seq (bb [aN 40 10,q2 41 40] [0,1,6,7,8,9,41] (.cond (.t 41) (bb [n3 4,n2 5 false] [0,4,5] .ret) .skip)) (.eh [aN 42 7,aN 43 9,uG 44 121 43,uH 45 121 121 42 44,cb 7 45] (some [0,1,6,7,8]))))) (.eh [aN 27 8,dy 28 .add 3 27 1,cb 8 28] (some [0,1,6,7,8]))
def ZB:aA:=.seq (bb [aN 23 8,aN 24 1,jw 25 39 24,iP 26 .lss 3 23 25] [0,1,6,7,8,26] (.cond (.t 26) .skip (.exit 0))) al0
def al1:aA:=.seq (se [dS 68 126 13 0,cw 69 9 68,ro 70 (.eP .neq 9 (.t 69) (.c (.str [116,97,117]))),aN 71 70,eU 72 71 (.ht (.t 0)),eU 73 71 (.mA (.t 72)),eU 74 71 (.hV 37 (.t 73) 3),eU 75 71 (.ld 25 (.t 74)),eU 76 71 (.hV 126 (.t 13) 0),eU 77 71 (.ld 9 (.t 76)),⟨some 78,.call (.f 69) [(.t 77)],some (71,true)⟩,⟨some 79,.call (.f 25) [(.t 75),(.t 78)],some (71,true)⟩,eU 80 71 (.eP .lss 2 (.t 79) (.c (.int .i64 0))),ro 81 (.pick (.t 71) (.t 80) (.c (.bool false)))] [[],[0],[1],[2],[3],[4,3],[5,3],[6,3],[3],[8,3],[9,3,3],[7,10,10,3],[11,3],[3,12]] [0,1,6,7,11,12,13,81] (.cond (.t 81) (.exit 5) .skip)) (bb [aN 82 1,iw 83 70 82,cb 14 83] [0,1,6,7,11,12,13,14] (bb [aN 84 14,aN 85 11,dS 86 126 13 1,cw 87 65 86,gw 88 39 84 85,jJ 65 88 87] [0,1,6,7,11,12,13,14] (.eh [aN 89 6,aN 90 0,dS 91 126 13 0,cw 92 9 91,j1 93 72 90 92,aN 94 11,aN 95 14,iw 96 70 95,⟨some 97,.shr (.gB 71 [(0,(.t 93)),(1,(.t 94)),(2,(.c (.int .i64 (-1)))),(3,(.t 96))]),none⟩,j1 98 71 89 97,cb 6 98] (some [0,1,6,7,11,12]))))
def ZC:aA:=.eh [aN 59 12,dy 60 .add 3 59 1,cb 12 60] (some [0,1,6,7,11,12])
def ZD:aA:=.seq (bb [aN 52 12,aN 53 7,aN 54 11,gw 55 121 53 54,cw 56 122 55,jw 57 122 56,iP 58 .lss 3 52 57] [0,1,6,7,11,12,58] (.cond (.t 58) .skip (.exit 4))) (.seq (.block 5 (bb [aN 61 7,aN 62 11,gw 63 121 61 62,cw 64 122 63,aN 65 12,gw 66 122 64 65,cw 67 126 66,o7 13 126,jJ 126 13 67] [0,1,6,7,11,12,13] al1)) ZC)
def ZE:aA:=.seq (bb [aN 46 11,aN 47 1,jw 48 39 47,iP 49 .lss 3 46 48] [0,1,6,7,11,49] (.cond (.t 49) .skip (.exit 2))) (.seq (.block 3 (bb [ie 12 0] [0,1,6,7,11,12] (.block 4 (.loop ZD)))) (.eh [aN 50 11,dy 51 .add 3 50 1,cb 11 51] (some [0,1,6,7,11])))
def al2:aA:=bb [aN 158 20,aN 159 15,aN 160 7,aN 161 15,gw 162 121 160 161,cw 163 122 162,aN 164 17,gw 165 122 163 164,dS 166 126 165 1,cw 167 65 166,gw 168 39 158 159,jJ 65 168 167] [0,1,6,7,15,16,17,18,19,20] (bb [aN 169 20,aN 170 16,aN 171 7,aN 172 16,gw 173 121 171 172,cw 174 122 173,aN 175 18,gw 176 122 174 175,dS 177 126 176 1,cw 178 65 177,gw 179 39 169 170,jJ 65 179 178] [0,1,6,7,15,16,17,18,19,20] (.eh [aN 180 6,aN 181 0,aN 182 19,j1 183 72 181 182,aN 184 15,aN 185 16,aN 186 20,iw 187 70 186,⟨some 188,.shr (.gB 71 [(0,(.t 183)),(1,(.t 184)),(2,(.t 185)),(3,(.t 187))]),none⟩,j1 189 71 180 188,cb 6 189] (some [0,1,6,7,15,16,17,18])))
def ZF:aA:=.eh [aN 134 18,dy 135 .add 3 134 1,cb 18 135] (some [0,1,6,7,15,16,17,18])
def al3:aA:=.seq (.block 13 (se [aN 136 0,aN 137 7,aN 138 15,gw 139 121 137 138,cw 140 122 139,aN 141 17,gw 142 122 140 141,dS 143 126 142 0,cw 144 9 143,aN 145 7,aN 146 16,gw 147 121 145 146,cw 148 122 147,aN 149 18,gw 150 122 148 149,dS 151 126 150 0,cw 152 9 151,YJ 153 73 136 144 152,cb 19 153] [[],[],[],[1,2],[3],[],[4,5],[6],[7],[],[],[9,10],[11],[],[12,13],[14],[15],[0,8,16],[17,17,0,1,2,3,4,5,6,7,8,9,10,11,12,13,14,15,16,17]] [0,1,6,7,15,16,17,18,19] (.seq (bb [aN 154 19,ro 155 (.eP .eql 9 (.t 154) (.c (.str [])))] [0,1,6,7,15,16,17,18,19,155] (.cond (.t 155) (.exit 13) .skip)) (bb [aN 156 1,iw 157 70 156,cb 20 157] [0,1,6,7,15,16,17,18,19,20] al2)))) ZF
def ZG:aA:=.seq (bb [aN 122 18,aN 123 7,aN 124 16,gw 125 121 123 124,cw 126 122 125,jw 127 122 126,iP 128 .lss 3 122 127,aN 129 128,eU 130 129 (.ht (.t 6)),eU 131 129 (.len 67 (.t 130)),eU 132 129 (.eP .leq 3 (.t 131) (.c (.int .i64 200))),ro 133 (.pick (.t 129) (.t 132) (.c (.bool false)))] [0,1,6,7,15,16,17,18,133] (.cond (.t 133) .skip (.exit 12))) al3
def ZH:aA:=.seq (bb [aN 113 17,aN 114 7,aN 115 15,gw 116 121 114 115,cw 117 122 116,jw 118 122 117,iP 119 .lss 3 113 118] [0,1,6,7,15,16,17,119] (.cond (.t 119) .skip (.exit 10))) (.seq (.block 11 (bb [ie 18 0] [0,1,6,7,15,16,17,18] (.block 12 (.loop ZG)))) (.eh [aN 120 17,dy 121 .add 3 120 1,cb 17 121] (some [0,1,6,7,15,16,17])))
def ZI:aA:=.seq (bb [aN 107 16,aN 108 1,jw 109 39 108,iP 110 .lss 3 107 109] [0,1,6,7,15,16,110] (.cond (.t 110) .skip (.exit 8))) (.seq (.block 9 (bb [ie 17 0] [0,1,6,7,15,16,17] (.block 10 (.loop ZH)))) (.eh [aN 111 16,dy 112 .add 3 111 1,cb 16 112] (some [0,1,6,7,15,16])))
def ZJ:aA:=.seq (bb [aN 99 15,aN 100 1,jw 101 39 100,iP 102 .lss 3 99 101] [0,1,6,7,15,102] (.cond (.t 102) .skip (.exit 6))) (.seq (.block 7 (bb [aN 105 15,dy 106 .add 3 105 1,cb 16 106] [0,1,6,7,15,16] (.block 8 (.loop ZI)))) (.eh [aN 103 15,dy 104 .add 3 103 1,cb 15 104] (some [0,1,6,7,15])))
def al4:aA:=bb [n3 4,n2 5 false] [0,1] (bb [ro 21 (.dM 67 0 []),cb 6 21] [0,1,6] (bb [ro 22 (.dM 121 0 []),cb 7 22] [0,1,6,7] (.seq (bb [ie 8 0] [0,1,6,7,8] (.block 0 (.loop ZB))) (.seq (bb [ie 11 0] [0,1,6,7,11] (.block 2 (.loop ZE))) (.seq (bb [ie 15 0] [0,1,6,7,15] (.block 6 (.loop ZJ))) (bb [aN 190 6,aN 191 6,jw 192 67 191,dy 193 .leq 3 192 200,cb 4 190,cb 5 193] [0,4,5] .ret))))))
noncomputable def al5:aA:=bT (bS 45 [0,1] Tryz.f23 [[0,1],[0,7,8],[0,7,8,9],[0,7,8,9,10],[0,7,8,9,10,11],[0,7,8,9,10,11,23],[0,7,8,9,10,11],[0,7,8,9,10,11],[0,7,8,9,10,11],[0,4,5,6]])
def ZK:aA:=.seq (se [aN 21 5,aN 22 3,jw 23 25 22,iP 24 .lss 3 21 23,aN 25 24,eU 26 25 (.ht (.t 3)),eU 27 25 (.ht (.t 5)),eU 28 25 (.kg 25 (.t 26) (.t 27)),eU 29 25 (.ld 9 (.t 28)),eU 30 25 (.ht (.t 0)),eU 31 25 (.ht (.t 4)),eU 32 25 (.kg 25 (.t 30) (.t 31)),eU 33 25 (.ld 9 (.t 32)),eU 34 25 (.eP .lss 9 (.t 29) (.t 33)),ro 35 (.pick (.t 25) (.t 34) (.c (.bool false)))] [[],[],[1],[0,2],[3],[4],[4],[5,6,4],[7,4],[4],[4],[9,10,4],[11,4],[8,12,4],[4,13]] [0,3,4,5,35] (.cond (.t 35) .skip (.exit 2))) (.block 3 (.eh [aN 36 5,dy 37 .add 3 36 1,cb 5 37] (some [0,3,4,5])))
def RT:aA:=.seq (bb [aN 44 6,aN 45 5,iP 46 .gtr 3 44 45] [0,3,4,5,6,46] (.cond (.t 46) .skip (.exit 4))) (.seq (.block 5 (.eh [aN 49 3,aN 50 6,aN 51 3,aN 52 6,dy 53 .sub 3 52 1,gw 54 25 51 53,cw 55 9 54,gw 56 25 49 50,jJ 9 56 55] (some [0,3,4,5,6]))) (.eh [aN 47 6,dy 48 .sub 3 47 1,cb 6 48] (some [0,3,4,5,6])))
def ZL:aA:=.eh [aN 12 4,dy 13 .add 3 12 1,cb 4 13] (some [0,3,4])
def al6:aA:=.seq (.block 1 (.seq (bb [aN 14 3,aN 15 0,aN 16 4,gw 17 25 15 16,cw 18 9 17,j1 19 25 14 18,dy 20 .geq 2 19 0] [0,3,4,20] (.cond (.t 20) (.exit 1) .skip)) (bb [ie 5 1] [0,3,4,5] (.seq (.block 2 (.loop ZK)) (bb [aN 38 3,ro 39 (.dM 25 1 [(0,(.c (.str [])))]),uH 40 25 25 38 39,cb 3 40] [0,3,4,5] (.seq (bb [aN 41 3,jw 42 25 41,dy 43 .sub 3 42 1,cb 6 43] [0,3,4,5,6] (.block 4 (.loop RT))) (.eh [aN 57 3,aN 58 5,aN 59 0,aN 60 4,gw 61 25 59 60,cw 62 9 61,gw 63 25 57 58,jJ 9 63 62] (some [0,3,4])))))))) ZL
def ZM:aA:=.seq (bb [aN 8 4,aN 9 0,jw 10 25 9,iP 11 .lss 3 8 10] [0,3,4,11] (.cond (.t 11) .skip (.exit 0))) al6
def c24:aA:=bb [n3 2] [0] (bb [ro 7 (.dM 25 1 [(0,(.c (.str [116,97,117])))]),cb 3 7] [0,3] (.seq (bb [ie 4 0] [0,3,4] (.block 0 (.loop ZM))) (bb [aN 64 3,cb 2 64] [2] .ret)))
def ZN:aA:=bb [ro 31 (.dM 25 0 []),aN 32 10,uH 33 25 25 31 32,cb 4 33,ie 5 0] [4,5] .ret
def al7:aA:=.seq (bb [aN 13 6,dy 14 .neq 2 13 0] [1,2,6,14] (.cond (.t 14) (bb [aN 15 6,n3 4,cb 5 15] [4,5] .ret) .skip)) (bb [aN 17 1,j1 18 23 2 17,aN 16 18,⟨some 19,.ext (.t 16) 0,none⟩,km 20 16 1,km 21 16 2,cb 7 19,cb 8 20,cb 9 21] [7,9] (.seq (bb [aN 22 9,q2 23 22] [7,23] (.cond (.t 23) (bb [n3 4,ie 5 5] [4,5] .ret) .skip)) (bb [aN 24 7,iw 25 24 24,cb 10 25] [7,10] (.seq (bb [aN 26 7,ro 27 (.call (.f 25) [(.t 26),(.c (.str [116,97,117]))]),dy 28 .lss 2 27 0] [10,28] (.cond (.t 28) (.eh [aN 29 10,ro 30 (.iJ 25 (.t 29) (some (.c (.int .i64 1))) none),cb 10 30] (some [10])) .skip)) ZN))))
def eT:aA:=bb [ro 2 (.ir 37 (.t 0)),n3 4,ie 5 0] [1,2] (bb [aN 11 1,j1 12 22 2 11,cb 6 12] [1,2,6] al7)
noncomputable def c154:aA:=bT (bS 15 [0,1,2] Tryz.f154 [[0,1,2],[6]])
noncomputable def al8:aA:=bT (bS 7 [0] Tryz.f224 [[1],[2]])
noncomputable def c226:aA:=bT (bS 19 [0,1] Tryz.f226 [[0,1],[0,1,7,8],[0,1,7,8,9],[0,1,5,7,8],[0,1,5,7,8,16],[4],[0,1,7,8],[4]])
noncomputable def al9:aA:=bT (bS 9 [0,1] Tryz.f223 [[0,1],[4]])
noncomputable def c193:aA:=bT (bS 6 [0] Tryz.f193 [[0],[2]])
noncomputable def al_:aA:=bT (bS 9 [0] Tryz.f225 [[0],[2]])
noncomputable def c194:aA:=bT (bS 42 [0] Tryz.f194 [[0],[0,6,7],[0,6,7,8],[0,3,6,7],[0,3,4,6,7],[0,6,7,32],[2],[0,6,7],[2]])
noncomputable def c227:aA:=bT (bS 8 [0,1] Tryz.f227 [[1,2],[3]])
noncomputable def ama:aA:=bT (bS 19 [0,1] Tryz.f226 [[0,1],[0,1,7,8],[0,1,7,8,9],[0,1,5,7,8],[0,1,5,7,8,16],[4],[0,1,7,8],[4]])
noncomputable def amb:aA:=bT (bS 8 [0,1] Tryz.f195 [[0,3],[4]])
noncomputable def amc:aA:=bT (bS 11 [0] Tryz.f161 [[1],[4],[4,5],[4,5],[4,5],[2],[9],[2],[2]])
noncomputable def c168:aA:=bT (bS 25 [0] Tryz.f168 [[1,2],[1,2,5],[1,2,5,7],[1,2,5,14],[4],[1,2,5],[1,2,5],[4]])
def amd:aA:=.eh [dS 29 185 9 0,cw 30 2 29,dy 31 .add 2 30 1,dS 32 185 9 0,jJ 2 32 31] (some [0,2,3,4,8,9])
def ame:aA:=.cond (.t 28) amd .skip
def amf:aA:=.eh [dy 43 .add 3 37 1,aN 37 43] (some [2,3,4,9,10,36,37])
def amg:aA:=.seq (.block 1 (.kU (OT ai 160 4 2 39 ((range 3).map (·+2)) [aN 40 10,cw 41 185 9] [(.t 40),(.t 41)] (some 42) [cb 10 42] [2,3,4,9,10,36,37]) (Yh 230 4 39 [aN 40 10,cw 41 185 9] [(.t 40),(.t 41)] (some 42) [cb 10 42]))) amf
def amh:aA:=.seq (.cond (.t 38) .skip (.exit 0)) amg
def ZO:aA:=bb [iP 38 .lss 3 37 36] [2,3,4,9,10,36,37,38] amh
def ami:aA:=.block 0 (.loop ZO)
def amj:aA:=bb [aN 44 10,cb 7 44] [2,3,4,7] .ret
def amk:aA:=.seq (bb [cw 35 161 8,iw 36 161 35,yl 37 0] [2,3,4,9,10,36,37] ami) amj
def ZP:aA:=bb [aN 33 0,dy 34 .add 3 33 1,cb 10 34] [2,3,4,8,9,10] amk
def aml:aA:=.seq (bb [dS 26 161 8 0,cw 27 2 26,dy 28 .eql 2 27 4] [0,2,3,4,8,9,28] ame) ZP
def amm:aA:=bb [dS 20 185 6 0,cw 21 2 20,dS 22 161 8 0,cw 23 2 22,dy 24 .eql 2 23 1,ro 25 (.gB 185 [(0,(.t 21)),(1,(.t 24))]),o7 9 185,jJ 185 9 25] [0,2,3,4,8,9] aml
def amn:aA:=bb [dS 15 99 3 2,cw 16 97 15,aN 17 0,gw 18 97 16 17,cw 19 161 18,o7 8 161,jJ 161 8 19] [0,2,3,4,6,8] amm
def amo:aA:=bb [cw 11 186 2,aN 12 0,cw 13 185 6,gw 14 186 11 12,jJ 185 14 13] [0,2,3,4,6] amn
def c160:aA:=bb [ro 6 (.ir 185 (.t 1)),ie 7 0] [0,2,3,4,6] amo
theorem amp:c160.qc (JI ai 160 [0,1,2,3,4] 5 2 4):=And.intro (True.intro) (And.intro (True.intro) (And.intro (True.intro) (And.intro (True.intro) (And.intro (And.intro (True.intro) (And.intro (True.intro) (True.intro))) (And.intro (True.intro) (And.intro (And.intro (True.intro) (And.intro (True.intro) (And.intro (And.intro (True.intro) (True.intro)) (And.intro (⟨230,2,39,3,_,_,_,_,_,rfl,rfl,(by kernel_rfl),rfl,rfl,rfl,rfl,rfl,rfl,rfl⟩) (True.intro))))) (And.intro (True.intro) (True.intro))))))))
theorem amq:fQ ⟨45,[0,1,2,3,4]⟩ (Tryz.f160.body.getD .skip)=some c160.strip:=by kernel_rfl
def RU:aA:=bb [cw 15 186 3,cb 2 15] [2] .ret
def amr:aA:=bb [cw 10 230 4,dS 11 99 1 1,cw 12 2 11,ro 13 (.gB 185 [(0,(.t 12))]),ro 14 (.call (.t 10) [(.c (.int .i64 0)),(.t 13)])] [3] RU
def azH:aA:=bb [ro 9 (.p9 160 [(.t 3),(.t 1),(.t 4)]),jJ 230 4 9] [1,3,4] amr
def ams:aA:=.kU (OY ai 160 4 2 10 9 [3,1,4] [dS 11 99 1 1,cw 12 2 11,ro 13 (.gB 185 [(0,(.t 12))])] [(.c (.int .i64 0)),(.t 13)] (some 14) [3] RU) (Ym 230 160 4 10 9 [3,1,4] [dS 11 99 1 1,cw 12 2 11,ro 13 (.gB 185 [(0,(.t 12))])] [(.c (.int .i64 0)),(.t 13)] (some 14) RU.nD)
def amt:aA:=bb [dS 5 99 1 2,cw 6 97 5,jw 7 97 6,ro 8 (.fi 186 (.t 7) (.t 7)),o7 3 186,jJ 186 3 8] [1,3] ams
def c116:aA:=bb [ro 1 (.ir 99 (.t 0)),n3 2] [1] amt
theorem amu:c116.qc (FK ai):=And.intro (True.intro) (And.intro (True.intro) (⟨230,160,4,2,10,9,_,_,_,_,_,_,rfl,rfl,(by kernel_rfl),⟨Tryz.t230,_,_,(by kernel_rfl),rfl,rfl,rfl,rfl⟩,rfl,rfl,rfl,rfl,(by kernel_rfl)⟩))
theorem amv:fQ ⟨16,[0]⟩ (Tryz.f116.body.getD .skip)=some c116.strip:=by kernel_rfl
noncomputable def amw:aA:=bT (bS 56 [0] Tryz.f253 [[1],[1,3],[1,3,4],[2]])
def amx:aA:=bb [n2 2 false] [0] (bb [aN 3 0,iw 4 194 3,aN 5 4,eU 6 5 (.ht (.t 0)),⟨some 7,.eP .neq 9 (.t 6) (.c (.str [116,97,117])),some (5,true)⟩,ro 8 (.pick (.t 5) (.t 7) (.c (.bool false))),cb 2 8] [2] .ret)
noncomputable def amy:aA:=bT (bS 9 [0,1] Tryz.f115 [[0,1],[4]])
def amz:aA:=.cond (.t 11) (bb [aN 13 5,dy 14 .eql 3 13 0,aN 15 14,ij 16 15 (.hV 161 (.t 2) 2),ij 17 15 (.ld 9 (.t 16)),⟨some 18,.eP .neq 9 (.t 17) (.c (.str [116,97,117])),some (15,false)⟩,ij 19 15 (.ht (.t 18)),eU 20 19 (.ht (.t 5)),eU 21 19 (.eP .leq 3 (.t 20) (.c (.int .i64 2))),ij 22 15 (.pick (.t 19) (.t 21) (.c (.bool false))),ro 23 (.pick (.t 15) (.c (.bool true)) (.t 22)),cb 4 23] [4] .ret) (bb [dy 25 .eql 2 10 3,cb 24 25] [1,2,5,10,24] (.cond (.t 24) (bb [aN 26 5,dy 27 .eql 3 26 1,cb 4 27] [4] .ret) (bb [dy 29 .eql 2 10 5,cb 28 29] [1,2,5,28] (.cond (.t 28) (bb [aN 30 5,aN 31 1,dS 32 161 2 1,cw 33 2 32,gw 34 33 31 33,dS 35 99 34 1,cw 36 2 35,iP 37 .eql 2 30 36,cb 4 37] [4] .ret) .skip))))
def amA:aA:=bb [ro 2 (.ir 161 (.t 0)),n2 4 false] [1,2] (bb [dS 6 161 2 3,cw 7 159 6,jw 8 159 7,cb 5 8] [1,2,5] (.seq (bb [dS 9 161 2 0,cw 10 2 9] [1,2,5,10] (.block 0 (bb [dy 12 .eql 2 10 1,cb 11 12] [1,2,5,10,11] amz))) (bb [n2 4 true] [4] .ret)))
noncomputable def c164:aA:=bT (bS 5 [0] Tryz.f164 [[0],[2]])
noncomputable def amB:aA:=bT (bS 29 [0,1] Tryz.f277 [[1,2],[1,2,6],[1,2,6,7],[4],[1,2,6,12],[4],[2,6,19],[4],[2,24],[4],[4]])
noncomputable def amC:aA:=bT (bS 9 [0] Tryz.f259 [[1],[4],[4,5],[2],[7],[2],[2]])
noncomputable def amD:aA:=bT (bS 47 [0,1,2] Tryz.f257 [[0,1,2],[0,1,24],[6],[0,1,7],[1,7,25,26,27],[1,7,25,26,27,28],[1,7,9,25,26,27],[1,7,9,25,26,27,38],[6],[1,7,25,26,27],[1,7,25,26,27],[6]])
noncomputable def amE:aA:=bT (bS 9 [0,1] Tryz.f256 [[0,1],[3]])
noncomputable def amF:aA:=bT (bS 19 [0,1] Tryz.f276 [[0,1],[0,1,7,8],[0,1,7,8,9],[0,1,5,7,8],[0,1,5,7,8,16],[4],[0,1,7,8],[4]])
noncomputable def amG:aA:=bT (bS 9 [0,1] Tryz.f255 [[0,1],[4]])
def amH:aA:=bb [dS 55 161 3 0,cw 56 2 55,dy 57 .eql 2 56 5,aN 58 57,eU 59 58 (.hV 185 (.t 5) 1),eU 60 58 (.ld 4 (.t 59)),eU 61 58 (.un .not (.t 60)),ro 62 (.pick (.t 58) (.t 61) (.c (.bool false))),cb 54 62] [3,5,54] (.cond (.t 54) (bb [ie 6 6] [6] .ret) (bb [dS 64 161 3 0,cw 65 2 64,dy 66 .eql 2 65 4,aN 67 66,eU 68 67 (.hV 185 (.t 5) 0),eU 69 67 (.ld 2 (.t 68)),eU 70 67 (.eP .geq 2 (.t 69) (.c (.int .i64 6))),ro 71 (.pick (.t 67) (.t 70) (.c (.bool false))),cb 63 71] [3,5,63] (.cond (.t 63) (bb [ie 6 7] [6] .ret) (bb [dS 73 161 3 3,cw 74 159 73,ro 75 (.p9 256 [(.t 5)]),j1 76 255 74 75,cb 72 76] [72] (.cond (.t 72) (bb [ie 6 8] [6] .ret) .skip)))))
def ZQ:aA:=.cond (.t 26) (bb [ie 6 4] [6] .ret) (bb [cw 50 161 3,aN 51 1,j1 52 254 50 51,q2 53 52,cb 49 53] [3,5,49] (.cond (.t 49) (bb [ie 6 5] [6] .ret) amH))
def amI:aA:=bb [dS 27 161 3 0,cw 28 2 27,dy 29 .eql 2 28 4,aN 30 29,eU 31 30 (.hV 161 (.t 3) 1),eU 32 30 (.ld 2 (.t 31)),⟨some 33,.call (.f 154) [(.t 32),(.c (.int .i64 1)),(.c (.int .i64 7))],some (30,true)⟩,eU 34 30 (.un .not (.t 33)),ro 35 (.pick (.t 30) (.t 34) (.c (.bool false))),aN 36 35,ij 37 36 (.hV 161 (.t 3) 0),ij 38 36 (.ld 2 (.t 37)),ij 39 36 (.eP .eql 2 (.t 38) (.c (.int .i64 5))),ij 40 36 (.ht (.t 39)),eU 41 40 (.hV 161 (.t 3) 1),eU 42 40 (.ld 2 (.t 41)),eU 43 40 (.ht (.t 1)),eU 44 40 (.len 33 (.t 43)),⟨some 45,.call (.f 115) [(.t 42),(.t 44)],some (40,true)⟩,eU 46 40 (.un .not (.t 45)),ij 47 36 (.pick (.t 40) (.t 46) (.c (.bool false))),ro 48 (.pick (.t 36) (.c (.bool true)) (.t 47)),cb 26 48] [1,3,5,26] ZQ
def ZR:aA:=.cond (.t 11) (bb [ie 6 3] [6] .ret) amI
def amJ:aA:=.seq (.block 0 (bb [cw 8 161 3,iw 9 253 8,q2 10 9,cb 7 10] [1,3,5,7] (.cond (.t 7) (bb [ie 6 2] [6] .ret) (bb [dS 12 161 3 0,cw 13 2 12,dy 14 .eql 2 13 1,aN 15 14,eU 16 15 (.hV 161 (.t 3) 2),eU 17 15 (.ld 9 (.t 16)),⟨some 18,.eP .neq 9 (.t 17) (.c (.str [116,97,117])),some (15,true)⟩,ro 19 (.pick (.t 15) (.t 18) (.c (.bool false))),aN 20 19,eU 21 20 (.hV 161 (.t 3) 2),eU 22 20 (.ld 9 (.t 21)),⟨some 23,.call (.f 174) [(.t 22)],some (20,true)⟩,eU 24 20 (.un .not (.t 23)),ro 25 (.pick (.t 20) (.t 24) (.c (.bool false))),cb 11 25] [1,3,5,11] ZR)))) (bb [ie 6 0] [6] .ret)
def c228:aA:=bb [ro 3 (.ir 161 (.t 0)),ro 5 (.ir 185 (.t 2)),ie 6 0] [1,3,5] amJ
noncomputable def c196:aA:=bT (bS 45 [0,1] Tryz.f196 [[0,3],[0,3,22],[4,5],[0,3,6],[0,6,26,27,28],[0,6,26,27,28,29],[0,6,7,8,26,27,28],[0,6,7,9,26,27,28],[0,6,7,9,26,27,28,41],[4,5],[0,6,26,27,28],[4,5]])
noncomputable def amK:aA:=bT (bS 45 [0] Tryz.f153 [[0],[0,15],[2],[0,16,17,18],[0,16,17,18,19],[0,3,4,16,17,18],[0,4,16,17,18,35],[2],[0,6,16,17,18],[0,16,17,18,43],[2],[0,16,17,18],[2]])
noncomputable def amL:aA:=bT (bS 6 [0] Tryz.f163 [[0],[2]])
noncomputable def c201:aA:=bT (bS 19 [0,1] Tryz.f201 [[0,1],[0,1,7,8],[0,1,7,8,9],[0,1,5,7,8],[0,1,5,7,8,16],[4],[0,1,7,8],[4]])
noncomputable def c162:aA:=bT (bS 9 [0,1] Tryz.f162 [[0,1],[4]])
noncomputable def c117:aA:=bT (bS 6 [0] Tryz.f117 [[0],[2]])
noncomputable def c157:aA:=bT (bS 27 [0,1] Tryz.f157 [[0,3],[4]])
noncomputable def c156:aA:=bT (bS 9 [0,1] Tryz.f156 [[1,2],[3]])
noncomputable def amM:aA:=bT (bS 19 [0,1] Tryz.f197 [[0,1],[0,1,7,8],[0,1,7,8,9],[0,1,5,7,8],[0,1,5,7,8,16],[4],[0,1,7,8],[4]])
noncomputable def amN:aA:=bT (bS 9 [0,1] Tryz.f155 [[0,1],[4]])
noncomputable def amO:aA:=bT (bS 6 [0] Tryz.f278 [[0],[2]])
noncomputable def amP:aA:=bT (bS 20 [0,1] Tryz.f258 [[0,1],[0,1,5],[0,1,5,6],[0,1,6,11],[12],[4],[4],[0,1,13],[4],[0,1,16],[4],[19],[4],[4]])
noncomputable def c229:aA:=bT (bS 36 [0,1] Tryz.f229 [[0,1],[0,1,9,10,11],[0,1,9,10,11,12],[0,1,5,6,9,10,11],[0,1,5,6,9,10,11,19],[4],[0,1,6,7,9,10,11],[0,1,8,9,10,11],[0,1,8,9,10,11,28],[4],[0,1,9,10,11],[35],[4],[4]])
noncomputable def c198:aA:=bT (bS 16 [0,1] Tryz.f198 [[2,3],[4]])
noncomputable def amQ:aA:=bT (bS 16 [0,1] Tryz.f200 [[1,2],[3]])
noncomputable def amR:aA:=bT (bS 19 [0,1] Tryz.f180 [[0,1],[0,1,7,8],[0,1,7,8,9],[0,1,5,7,8],[0,1,5,7,8,16],[4],[0,1,7,8],[4]])
noncomputable def amS:aA:=bT (bS 9 [0,1] Tryz.f199 [[0,1],[4]])
noncomputable def amT:aA:=bT (bS 56 [0] Tryz.f158 [[0],[0,5,6,7],[0,5,6,7,8],[0,3,4,5,6,7],[0,4,5,6,7,48],[2],[0,5,6,7,51],[2],[0,5,6,7],[2]])
noncomputable def c159:aA:=bT (bS 32 [0] Tryz.f159 [[0],[0,5,6,7],[0,5,6,7,8],[0,3,4,5,6,7],[0,5,6,7,27],[2],[0,5,6,7],[2]])
noncomputable def amU:aA:=bT (bS 35 [0] Tryz.f113 [[1],[1,3],[2],[1,8],[2],[1,20],[2],[1,25],[2],[30],[2],[2]])
noncomputable def c75:aA:=bT (bS 6 [0] Tryz.f75 [[1],[2]])
noncomputable def amV:aA:=bT (bS 56 [0,1] Tryz.f78 [[0,3],[0,3,24],[4],[3,5],[4]])
noncomputable def amW:aA:=bT (bS 9 [0,1] Tryz.f77 [[1,2],[3]])
noncomputable def amX:aA:=bT (bS 19 [0,1] Tryz.f114 [[0,1],[0,1,7,8],[0,1,7,8,9],[0,1,5,7,8],[0,1,5,7,8,16],[4],[0,1,7,8],[4]])
noncomputable def c76:aA:=bT (bS 9 [0,1] Tryz.f76 [[0,1],[4]])
noncomputable def RV:aA:=bT (bS 21 [0,1] Tryz.f55 [[1,2],[4]])
noncomputable def amY:aA:=bT (bS 38 [0] Tryz.f230 [[0],[0,4],[0,4,5],[4,5,17,18],[4,5,17,18,19],[4,5,17,18],[4,5,6,17,18],[4,5,17,18],[4,5,17,18],[2,3]])
noncomputable def amZ:aA:=bT (bS 11 [0] Tryz.f202 [[0],[3],[2]])
noncomputable def am0:aA:=bT (bS 4 [0] Tryz.f231 [[0],[3],[2],[2]])
noncomputable def c232:aA:=bT (bS 67 [0,1,2] Tryz.f232 [[0,1,2],[1,2,7],[1,2,7,8],[6],[1,2,7,14],[6],[1,2,7,21],[6],[1,2,7,27],[6],[1,2,7,33],[6],[1,2,7,39],[6],[1,2,7,45],[6],[1,2,51],[6],[6]])
noncomputable def c203:aA:=bT (bS 61 [0,1] Tryz.f203 [[0,1],[0,1,9],[0,1,9,10],[4],[0,1,9,17],[4],[0,1,27],[4],[4]])
noncomputable def am1:aA:=bT (bS 9 [0,1] Tryz.f169 [[0,1],[4]])
noncomputable def am2:aA:=bT (bS 22 [0,1] Tryz.f165 [[0,1],[0,1,5],[1,5,8,9,10],[1,5,8,9,10,11],[1,5,7,8,9,10],[1,5,8,9,10],[1,5,8,9,10],[4]])
noncomputable def c127:aA:=bT (bS 5 [0] Tryz.f127 [[0],[2]])
noncomputable def c175:aA:=bT (bS 27 [0,1] Tryz.f175 [[0,1],[0,1,5],[1,5,11,12,13],[1,5,11,12,13,14],[1,5,6,7,11,12,13],[1,5,11,12,13],[1,5,11,12,13],[4]])
def am3:aA:=bb [aN 13 0,iw 14 174 13,q2 15 14,aN 16 15,ij 17 16 (.ht (.t 1)),ij 18 16 (.len 52 (.t 17)),ij 19 16 (.eP .gtr 3 (.t 18) (.c (.int .i64 2))),ro 20 (.pick (.t 16) (.c (.bool true)) (.t 19)),aN 21 20,ij 22 21 (.ht (.t 1)),⟨some 23,.call (.f 117) [(.t 22)],some (21,false)⟩,ij 24 21 (.un .not (.t 23)),ro 25 (.pick (.t 21) (.c (.bool true)) (.t 24)),cb 12 25] [0,1,12] (.cond (.t 12) (bb [ro 4 (.hN (.c (.str []))),n2 5 false] [4,5] .ret) (bb [aN 27 1,jw 28 52 27,dy 29 .eql 3 28 0,cb 26 29] [0,1,26] (.cond (.t 26) (bb [aN 30 0,cb 4 30,n2 5 true] [4,5] .ret) .skip)))
def am4:aA:=bb [ro 4 (.hN (.c (.str []))),n2 5 false] [0,1] (.seq (.block 0 (bb [aN 7 0,ro 8 (.eP .eql 9 (.t 7) (.c (.str [116,97,117]))),cb 6 8] [0,1,6] (.cond (.t 6) (bb [aN 9 1,jw 10 52 9,dy 11 .eql 3 10 0,ro 4 (.hN (.c (.str [116,97,117]))),cb 5 11] [4,5] .ret) am3))) (bb [aN 31 0,ro 32 (.eP .add 9 (.t 31) (.c (.str [40]))),aN 33 1,ro 34 (.call (.f 175) [(.t 33),(.c (.str [44]))]),iP 35 .add 9 32 34,ro 36 (.eP .add 9 (.t 35) (.c (.str [41]))),cb 4 36,n2 5 true] [4,5] .ret))
noncomputable def am5:aA:=bT (bS 8 [0] Tryz.f166 [[0],[0,4],[2],[2]])
noncomputable def am6:aA:=bT (bS 6 [0] Tryz.f286 [[0],[2]])
noncomputable def am7:aA:=bT (bS 19 [0,1] Tryz.f201 [[0,1],[0,1,7,8],[0,1,7,8,9],[0,1,5,7,8],[0,1,5,7,8,16],[4],[0,1,7,8],[4]])
noncomputable def am8:aA:=bT (bS 9 [0,1] Tryz.f162 [[0,1],[4]])
noncomputable def am9:aA:=bT (bS 11 [0] Tryz.f273 [[0],[2]])
def am_:aA:=bb [ro 2 (.hN (.c (.str [])))] [0] (.seq (.block 0 (bb [aN 4 0,iw 5 273 4,q2 6 5,cb 3 6] [0,3] (.cond (.t 3) (bb [ro 2 (.hN (.c (.str [])))] [2] .ret) (bb [aN 8 0,jw 9 52 8,dy 10 .eql 3 9 0,cb 7 10] [0,7] (.cond (.t 7) (bb [ro 2 (.hN (.c (.str [45])))] [2] .ret) .skip))))) (bb [aN 11 0,ro 12 (.call (.f 175) [(.t 11),(.c (.str [44]))]),cb 2 12] [2] .ret))
def c212:aA:=bb [ro 1 (.ir 65 (.t 0)),ro 2 (.hN (.c (.str [])))] [1] (se [dS 3 65 1 1,cw 4 2 3,iw 5 127 4,ro 6 (.eP .add 9 (.t 5) (.c (.str [58]))),dS 7 65 1 2,cw 8 52 7,iw 9 247 8,iP 10 .add 9 6 9,cb 2 10] [[],[0],[1],[2],[],[4],[5,2],[3,6],[7,6,0,1,2,3,4,5,6,7]] [2] .ret)
def ana:aA:=bb [ro 1 (.ir 65 (.t 0)),ro 2 (.hN (.c (.str [])))] [1] (se [dS 3 65 1 0,cw 4 2 3,iw 5 127 4,ro 6 (.eP .add 9 (.t 5) (.c (.str [58]))),cw 7 65 1,iw 8 212 7,iP 9 .add 9 6 8,cb 2 9] [[],[0],[1],[2],[],[4,2],[3,5],[6,5,0,1,2,3,4,5,6]] [2] .ret)
def anb:aA:=bb [aN 12 0,nH 13 12,dS 14 190 13 2,cw 15 138 14,aN 16 4,ro 17 (.jU 138 (.t 15) (.t 16)),q2 18 17] [0,1,3,4,18] (.cond (.t 18) (bb [aN 19 0,nH 20 19,dS 21 190 20 2,cw 22 138 21,aN 23 4,⟨none,.k6 138 (.t 22) (.t 23) (.c (.bool true)),none⟩] [0,1,3] (.jX [aN 24 0,aN 25 0,nH 26 25,dS 27 190 26 1,cw 28 122 27,cw 29 126 3,uG 30 122 29,uH 31 122 122 28 30,nH 32 24,dS 33 190 32 1,jJ 122 33 31] [[],[],[1],[2],[3],[],[5],[4,6],[0,0,1,2,3,4,5,6,7],[8,0,1,2,3,4,5,6,7],[9,7,7,0,1,2,3,4,5,6,7]] (some [0,1]))) .skip)
def anc:aA:=bb [ro 3 (.ir 126 (.t 1))] [0,1,3] (se [dS 5 126 3 0,cw 6 9 5,ro 7 (.eP .add 9 (.t 6) (.c (.str [32]))),dS 8 126 3 1,cw 9 65 8,iw 10 178 9,iP 11 .add 9 7 10,cb 4 11] [[],[0],[1],[],[3],[4],[2,5],[6,5,0,1,2,3,4,5,6]] [0,1,3,4] anb)
def ZS:aA:=.eh [aN 63 0,aN 64 10,cw 65 65 12,ro 66 (.gB 126 [(0,(.t 64)),(1,(.t 65))]),j1 67 167 63 66] (some [0])
def ane:aA:=bb [aN 41 1,aN 42 2,dy 43 .add 2 42 1,aN 44 3,iw 45 166 44,ro 46 (.gB 65 [(0,(.t 41)),(1,(.t 43)),(2,(.t 45))]),o7 12 65,jJ 65 12 46] [0,2,3,8,10,12] (.seq (bb [dS 47 99 8 2,cw 48 97 47,aN 49 2,dy 50 .add 2 49 1,gw 51 97 48 50,cw 52 161 51,o7 13 161,jJ 161 13 52] [0,3,10,12,13] (bb [dS 53 161 13 0,cw 54 2 53,dy 55 .eql 2 54 5] [0,3,10,12,13,55] (.cond (.t 55) (.jX [dS 56 161 13 1,cw 57 2 56,dS 58 161 13 3,cw 59 159 58,aN 60 3,j1 61 165 59 60,ro 62 (.gB 65 [(0,(.t 57)),(1,(.c (.int .i64 0))),(2,(.t 61))]),jJ 65 12 62] [[],[0],[],[2],[],[3,4],[1,5],[6,5,0,1,2,3,4,5,6]] (some [0,10,12])) .skip))) ZS)
def ZT:aA:=bb [iP 105 .lss 2 104 103] [0,1,2,3,103,104,105] (.seq (.cond (.t 105) .skip (.exit 1)) (.seq (.block 2 (bb [aN 106 104,cb 14 106] [0,1,2,3,14,103,104] (.eh [aN 107 0,aN 108 1,aN 109 2,dy 110 .add 2 109 1,aN 111 3,iw 112 166 111,aN 113 14,uG 114 52 113,⟨some 115,.shr (.app 52 52 (.t 112) (.t 114)),none⟩,FM 116 118 107 108 110 115] (some [0,1,2,3,103,104])))) (.eh [dy 117 .add 2 104 1,aN 104 117] (some [0,1,2,3,103,104]))))
def anf:aA:=bb [dy 85 .eql 2 28 3,cb 84 85] [0,1,2,3,9,28,84] (.cond (.t 84) (bb [dS 86 161 9 3,cw 87 159 86,ro 88 (.kg 159 (.t 87) (.c (.int .i64 0))),cw 89 212 88,aN 90 3,j1 91 169 89 90,dy 92 .neq 2 91 0] [0,1,2,3,92] (.cond (.t 92) (.eh [aN 93 0,aN 94 1,aN 95 2,dy 96 .add 2 95 1,aN 97 3,FM 98 118 93 94 96 97] (some [0])) .skip)) (bb [dy 100 .eql 2 28 4,cb 99 100] [0,1,2,3,9,99] (.cond (.t 99) (bb [dS 101 161 9 1,cw 102 2 101,dy 103 .add 2 102 1,yl 104 0] [0,1,2,3,103,104] (.block 1 (.loop ZT))) .skip)))
def ang:aA:=.cond (.t 29) (se [dS 32 161 9 2,cw 33 9 32,dS 34 161 9 3,cw 35 159 34,aN 36 3,j1 37 165 35 36,j1 38 123 33 37,aN 31 38,km 39 31 0,km 40 31 1,cb 10 39,cb 11 40] [[],[0],[],[2],[],[3,4],[1,5,5],[6],[7],[7],[8,6,0,1,2,3,4,5,6,7,8],[9,10,0,1,2,3,4,5,6,7,8,9,10]] [0,1,2,3,8,10] ane) (bb [dy 69 .eql 2 28 2,cb 68 69] [0,1,2,3,8,9,28,68] (.cond (.t 68) (bb [aN 70 0,aN 71 1,aN 72 2,dy 73 .add 2 72 1,aN 74 3,FM 75 118 70 71 73 74] [0,1,2,3,8] (.eh [aN 76 0,aN 77 1,cw 78 99 8,aN 79 2,dy 80 .add 3 79 1,j1 81 168 78 80,aN 82 3,FM 83 118 76 77 81 82] (some [0]))) anf))
def anh:aA:=bb [aN 15 0,nH 16 15,dS 17 190 16 0,cw 18 33 17,aN 19 1,gw 20 33 18 19,cw 21 99 20,o7 8 99,jJ 99 8 21] [0,1,2,3,8] (bb [dS 22 99 8 2,cw 23 97 22,aN 24 2,gw 25 97 23 24,cw 26 161 25,o7 9 161,jJ 161 9 26] [0,1,2,3,8,9] (bb [dS 27 161 9 0,cw 28 2 27] [0,1,2,3,8,9,28] (.block 0 (bb [dy 30 .eql 2 28 1,cb 29 30] [0,1,2,3,8,9,28,29] ang))))
def ani:aA:=bb [aN 7 0,ro 8 (.sU),ro 9 (.gB 190 [(0,(.t 7)),(2,(.t 8))]),ro 10 (.ir 190 (.t 9)),cb 6 10] [3,6] (bb [aN 11 6,dS 12 65 3 0,cw 13 2 12,dS 14 65 3 1,cw 15 2 14,dS 16 65 3 2,cw 17 52 16,FM 18 118 11 13 15 17] [6] (se [aN 19 6,nH 20 19,dS 21 190 20 1,cw 22 122 21,aN 23 6,nH 24 23,dS 25 190 24 1,cw 26 122 25,jw 27 122 26,dy 28 .leq 3 27 200,⟨some 4,.p_ (.t 22),none⟩,cb 5 28] [[],[0],[1],[2],[],[4],[5],[6],[7],[8],[3,0,1,2,3],[9,10,0,1,2,3,4,5,6,7,8,9,10]] [4,5,6] .ret))
def anj:aA:=bb [ro 3 (.ir 65 (.t 1)),n3 4,n2 5 false] [0,3] ani
noncomputable def c233:aA:=bT (bS 8 [0,1] Tryz.f233 [[0,1],[4]])
noncomputable def ank:aA:=bT (bS 143 [0,1] Tryz.f204 [[0,1],[0,1,5],[0,1,5,16],[4],[0,1,5,24],[4],[0,1,5,31],[4],[0,1,5,36],[4],[0,1,5,6],[0,1,5,6,7],[0,1,5,6,7,8],[0,1,5,6,7,8,9],[0,1,5,6,7,8,9,10],[0,1,5,6,7,8,9,10,59],[0,1,5,6,7,8,9,10,64],[0,1,5,6,7,8,9,10,11],[0,1,5,6,7,8,9,10,11,73],[4],[0,1,5,6,7,8,9,10],[0,1,5,6,7,8,9,10,93],[4],[0,1,5,6,7,8,9,10],[0,1,5,6,7,8,9,10],[0,1,5,6,7,8,9,10,107],[8,12],[8,12,114],[4],[4],[0,1,5,6,7,8,9,10,132],[8,13],[8,13,139],[4],[4],[4]])
noncomputable def anl:aA:=bT (bS 23 [0,1] Tryz.f170 [[0,1],[0,1,7],[0,1,7,12],[4,5,6],[4,5,6]])
noncomputable def c119:aA:=bT (bS 13 [0,1] Tryz.f119 [[0,1],[4,5,6]])
noncomputable def c210:aA:=bT (bS 21 [0,1] Tryz.f210 [[0,1],[4]])
noncomputable def c173:aA:=bT (bS 16 [0,1] Tryz.f173 [[0,1],[0,1,7],[4],[4]])
noncomputable def anm:aA:=bT (bS 8 [0,1] Tryz.f122 [[0,1],[4]])
noncomputable def ann:aA:=bT (bS 8 [0,1] Tryz.f209 [[0,1],[4]])
noncomputable def c208:aA:=bT (bS 34 [1] Tryz.f208 [[0,1],[0,1,9],[4],[0,1,15],[4],[0,1,5],[0,1,5,6],[0,1,5,6,24],[4],[0,1,5,6],[0,1,5]])
noncomputable def ano:aA:=bT (bS 66 [1,2] Tryz.f172 [[0,1,2,3],[0,1,2,3,13],[8],[0,1,2,3,15],[8],[0,1,2,3,20],[0,1,2,3],[0,1,2,3],[0,1,2,3,9],[0,1,2,3,9],[0,1,2,3,9,10],[0,1,2,3,9,10,36],[0,1,2,3,9,10,11],[0,1,2,3,9,10,11,41],[0,1,2,3,9,10,11],[0,1,2,3,9,10],[0,1,2,3,9,10],[9,10],[8]])
noncomputable def anp:aA:=bT (bS 8 [0,1] Tryz.f121 [[0,1],[4]])
noncomputable def anq:aA:=bT (bS 28 [0] Tryz.f120 [[0],[0,4],[4,9,10,11],[4,9,10,11,12],[4,6,9,10,11],[4,7,8,9,10,11],[4,7,9,10,11,21],[2,3],[4,9,10,11],[4,9,10,11],[2,3]])
def ZU:aA:=.seq (bb [aN 29 5,aN 30 8,j1 31 123 29 30,aN 28 31,km 32 28 0,km 33 28 1,cb 10 32,cb 11 33] [0,5,8,10,11] (bb [aN 34 11,q2 35 34,aN 36 35,ij 37 36 (.ht (.t 10)),ij 38 36 (.ht (.t 0)),ij 39 36 (.eP .neq 9 (.t 37) (.t 38)),ro 40 (.pick (.t 36) (.c (.bool true)) (.t 39))] [5,8,40] (.cond (.t 40) (bb [ro 2 (.hN (.c (.str []))),n3 3,n2 4 false] [2,3,4] .ret) .skip))) (bb [aN 41 5,aN 42 8,cb 2 41,cb 3 42,n2 4 true] [2,3,4] .ret)
def anr:aA:=bb [aN 13 0,ro 14 (.call (.f 119) [(.t 13),(.c (.str [40]))]),aN 12 14,km 15 12 0,km 16 12 1,km 17 12 2,cb 5 15,cb 6 16,cb 7 17] [0,5,6,7] (bb [n3 8] [0,5,6,7,8] (.seq (bb [aN 18 7] [0,5,6,8,18] (.cond (.t 18) (bb [n2 9 false] [0,5,6] (bb [aN 20 6,ro 21 (.call (.f 122) [(.t 20),(.c (.str [41]))]),ro 22 (.call (.f 121) [(.t 21),(.c (.str [44]))]),iw 23 120 22,aN 19 23,km 24 19 0,km 25 19 1,cb 8 24,cb 9 25] [0,5,8,9] (bb [aN 26 9,q2 27 26] [0,5,8,27] (.cond (.t 27) (bb [ro 2 (.hN (.c (.str []))),n3 3,n2 4 false] [2,3,4] .ret) .skip)))) .skip)) ZU))
def c80:aA:=bb [ro 2 (.hN (.c (.str []))),n3 3,n2 4 false] [0] anr
noncomputable def ans:aA:=bT (bS 19 [0,1] Tryz.f176 [[0,1],[0,1,7,8],[0,1,7,8,9],[0,1,5,7,8],[0,1,5,7,8,16],[4],[0,1,7,8],[4]])
noncomputable def c124:aA:=bT (bS 9 [0,1] Tryz.f124 [[0,1],[4]])
noncomputable def ant:aA:=bT (bS 8 [0] Tryz.f126 [[1,2],[1,2],[2]])
noncomputable def anu:aA:=bT (bS 19 [0] Tryz.f125 [[0],[0,3],[3,6,7,8],[3,6,7,8,9],[3,5,6,7,8],[3,6,7,8],[3,6,7,8],[2]])
def ZV:aA:=bb [iP 9 .lss 3 8 7] [3,6,7,8,9] (.seq (.cond (.t 9) .skip (.exit 0)) (.seq (.block 1 (bb [gw 10 39 6 8,cw 11 65 10,o7 5 65,jJ 65 5 11] [3,5,6,7,8] (.eh [aN 12 3,cw 13 65 5,iw 14 178 13,uG 15 25 14,uH 16 25 25 12 15,cb 3 16] (some [3,6,7,8])))) (.eh [dy 17 .add 3 8 1,aN 8 17] (some [3,6,7,8]))))
def anv:aA:=bb [ro 2 (.hN (.c (.str [])))] [0] (bb [n3 3] [0,3] (.seq (bb [aN 6 0,jw 7 39 6,yl 8 0] [3,6,7,8] (.block 0 (.loop ZV))) (bb [aN 18 3,ro 19 (.call (.f 179) [(.t 18),(.c (.str [32]))]),cb 2 19] [2] .ret)))
def anw:aA:=bb [aN 75 0,nH 76 75,dS 77 140 76 3,cw 78 138 77,aN 79 15,ro 80 (.jU 138 (.t 78) (.t 79)),q2 81 80] [0,3,4,12,14,15,81] (.cond (.t 81) (bb [aN 82 0,nH 83 82,dS 84 140 83 3,cw 85 138 84,aN 86 15,⟨none,.k6 138 (.t 85) (.t 86) (.c (.bool true)),none⟩] [0,3,4,12,14] (.eh [aN 87 0,aN 88 0,nH 89 88,dS 90 140 89 2,cw 91 67 90,aN 92 12,aN 93 3,aN 94 4,aN 95 14,ro 96 (.gB 71 [(0,(.t 92)),(1,(.t 93)),(2,(.t 94)),(3,(.t 95))]),uG 97 67 96,uH 98 67 67 91 97,nH 99 87,dS 100 140 99 2,jJ 67 100 98] (some [0]))) .skip)
def RW:aA:=bb [aN 62 12,ro 63 (.eP .add 9 (.t 62) (.c (.str [32]))),aN 64 3,iw 65 127 64,iP 66 .add 9 63 65,ro 67 (.eP .add 9 (.t 66) (.c (.str [32]))),aN 68 4,iw 69 127 68,iP 70 .add 9 67 69,ro 71 (.eP .add 9 (.t 70) (.c (.str [32]))),aN 72 14,iw 73 128 72,iP 74 .add 9 71 73,cb 15 74] [0,3,4,12,14,15] anw
def anx:aA:=bb [aN 41 0,nH 42 41,dS 43 140 42 1,cw 44 39 43,iw 45 125 44,cb 14 45] [0,3,4,5,12,14] (bb [aN 46 14,aN 47 3,aN 48 5,ro 49 (.kg 39 (.t 48) (.c (.int .i64 0))),cw 50 65 49,iw 51 126 50,gw 52 39 46 47,jJ 65 52 51] [0,3,4,5,12,14] (.seq (bb [aN 53 4,dy 54 .geq 2 53 0] [0,3,4,5,12,14,54] (.cond (.t 54) (.eh [aN 55 14,aN 56 4,aN 57 5,ro 58 (.kg 39 (.t 57) (.c (.int .i64 1))),cw 59 65 58,iw 60 126 59,gw 61 39 55 56,jJ 65 61 60] (some [0,3,4,12,14])) .skip)) RW))
def RX:aA:=bb [aN 36 1,aN 37 2,j1 38 123 36 37,aN 35 38,km 39 35 0,km 40 35 1,cb 12 39,cb 13 40] [0,3,4,5,12] anx
def anz:aA:=.seq (bb [aN 16 1,ro 17 (.eP .neq 9 (.t 16) (.c (.str [116,97,117]))),aN 18 17,eU 19 18 (.ht (.t 0)),eU 20 18 (.mA (.t 19)),eU 21 18 (.hV 140 (.t 20) 0),eU 22 18 (.hV 37 (.t 21) 3),eU 23 18 (.ld 25 (.t 22)),eU 24 18 (.ht (.t 1)),⟨some 25,.call (.f 124) [(.t 23),(.t 24)],some (18,true)⟩,eU 26 18 (.un .not (.t 25)),ro 27 (.pick (.t 18) (.t 26) (.c (.bool false)))] [0,1,2,3,4,5,27] (.cond (.t 27) .ret .skip)) (.seq (bb [aN 28 0,nH 29 28,dS 30 140 29 0,dS 31 37 30 4,cw 32 25 31,aN 33 1,j1 34 124 32 33] [0,1,2,3,4,5,34] (.cond (.t 34) (.eh [ro 1 (.hN (.c (.str [116,97,117]))),n3 2] (some [0,1,2,3,4,5])) .skip)) RX)
noncomputable def anA:aA:=bT (bS 19 [0,1,2] Tryz.f181 [[1,2,3],[4]])
noncomputable def anB:aA:=bT (bS 19 [0,1] Tryz.f180 [[0,1],[0,1,7,8],[0,1,7,8,9],[0,1,5,7,8],[0,1,5,7,8,16],[4],[0,1,7,8],[4]])
noncomputable def anC:aA:=bT (bS 21 [0,1,2] Tryz.f129 [[3,4,5],[3,8],[3,8,14],[6,7],[6,7]])
noncomputable def c130:aA:=bT (bS 26 [0,1] Tryz.f130 [[0,1],[0,1,10],[4],[0,1,12,13],[0,1,12,13,14],[0,1,5,12,13],[0,1,12,13,24],[4],[0,1,12,13],[4]])
def anD:aA:=bb [aN 49 0,nH 50 49,dS 51 140 50 0,cw 52 37 51,aN 53 12,aN 54 17,YJ 55 129 52 53 54,aN 48 55,km 56 48 0,km 57 48 1,cb 20 56,cb 21 57] [0,1,2,4,11,12,13,16,18,20,21,22,23,24,35,36,37] (bb [aN 58 21,aN 59 58,eU 60 59 (.ht (.t 13)),eU 61 59 (.ht (.t 18)),⟨some 62,.call (.f 130) [(.t 60),(.t 61)],some (59,true)⟩,ro 63 (.pick (.t 59) (.t 62) (.c (.bool false)))] [0,1,2,4,11,12,13,16,20,22,23,24,35,36,37,63] (.cond (.t 63) (.eh [aN 64 0,aN 65 20,aN 66 13,aN 67 1,aN 68 2,dS 69 126 11 1,cw 70 65 69,dS 71 126 16 1,cw 72 65 71,⟨some 73,.shr (.dM 39 2 [(0,(.t 70)),(1,(.t 72))]),none⟩,ro 74 (.call (.f 81) [(.t 64),(.t 65),(.t 66),(.t 67),(.t 68),(.t 73)])] (some [0,1,2,4,11,12,13,22,23,24,35,36,37])) .skip))
def ZW:aA:=.eh [dy 75 .add 3 37 1,aN 37 75] (some [0,1,2,4,11,12,13,22,23,24,35,36,37])
def ZX:aA:=bb [iP 38 .lss 3 37 36] [0,1,2,4,11,12,13,22,23,24,35,36,37,38] (.seq (.cond (.t 38) .skip (.exit 2)) (.seq (.block 3 (bb [gw 39 122 35 37,cw 40 126 39,o7 16 126,jJ 126 16 40] [0,1,2,4,11,12,13,16,22,23,24,35,36,37] (bb [dS 42 126 16 0,cw 43 9 42,iw 44 80 43,aN 41 44,km 45 41 0,km 46 41 1,km 47 41 2,cb 17 45,cb 18 46,cb 19 47] [0,1,2,4,11,12,13,16,17,18,22,23,24,35,36,37] anD))) ZW))
def ZY:aA:=bb [iP 25 .lss 3 24 23] [0,1,2,4,22,23,24,25] (.seq (.cond (.t 25) .skip (.exit 0)) (.seq (.block 1 (bb [gw 26 122 22 24,cw 27 126 26,o7 11 126,jJ 126 11 27] [0,1,2,4,11,22,23,24] (bb [dS 29 126 11 0,cw 30 9 29,iw 31 80 30,aN 28 31,km 32 28 0,km 33 28 1,km 34 28 2,cb 12 32,cb 13 33,cb 14 34] [0,1,2,4,11,12,13,22,23,24] (bb [aN 35 4,jw 36 122 35,yl 37 0] [0,1,2,4,11,12,13,22,23,24,35,36,37] (.block 2 (.loop ZX)))))) (.eh [dy 76 .add 3 24 1,aN 24 76] (some [0,1,2,4,22,23,24]))))
def anE:aA:=bb [aN 22 3,jw 23 122 22,yl 24 0] [0,1,2,4,22,23,24] (.block 0 (.loop ZY))
def anF:aA:=.seq (.block 3 (bb [gw 48 122 44 46,cw 49 126 48,o7 13 126,jJ 126 13 49] [1,2,6,7,8,13,24,25,26,44,45,46] (bb [dS 51 126 13 0,cw 52 9 51,iw 53 80 52,aN 50 53,km 54 50 0,km 55 50 1,km 56 50 2,cb 14 54,cb 15 55,cb 16 56] [1,2,6,7,8,13,14,15,24,25,26,44,45,46] (.eh [aN 57 6,aN 58 14,aN 59 15,aN 60 8,dS 61 126 13 1,cw 62 65 61,⟨some 63,.shr (.dM 39 1 [(0,(.t 62))]),none⟩,ro 64 (.call (.f 81) [(.t 57),(.t 58),(.t 59),(.t 60),(.c (.int .i64 (-1))),(.t 63)])] (some [1,2,6,7,8,24,25,26,44,45,46]))))) (.eh [dy 65 .add 3 46 1,aN 46 65] (some [1,2,6,7,8,24,25,26,44,45,46]))
def ZZ:aA:=bb [iP 47 .lss 3 46 45] [1,2,6,7,8,24,25,26,44,45,46,47] (.seq (.cond (.t 47) .skip (.exit 2)) anF)
def anG:aA:=.seq (.block 1 (bb [aN 28 26,gw 29 39 24 26,cw 30 65 29,o7 9 65,cb 8 28,jJ 65 9 30] [1,2,6,7,8,9,24,25,26] (bb [dS 32 37 2 0,cw 33 33 32,cw 34 65 9,j1 35 79 33 34,aN 31 35,km 36 31 0,km 37 31 1,cb 10 36,cb 11 37] [1,2,6,7,8,10,11,24,25,26] (.seq (bb [aN 38 11,q2 39 38] [1,2,6,7,8,10,24,25,26,39] (.cond (.t 39) (bb [n3 4,n2 5 false] [4,5] .ret) .skip)) (bb [aN 40 7,aN 41 10,uG 42 121 41,uH 43 121 121 40 42,cb 7 43] [1,2,6,7,8,10,24,25,26] (bb [aN 44 10,jw 45 122 44,yl 46 0] [1,2,6,7,8,24,25,26,44,45,46] (.block 2 (.loop ZZ)))))))) (.eh [dy 66 .add 3 26 1,aN 26 66] (some [1,2,6,7,24,25,26]))
def Z0:aA:=bb [iP 27 .lss 3 26 25] [1,2,6,7,24,25,26,27] (.seq (.cond (.t 27) .skip (.exit 0)) anG)
def Z1:aA:=.seq (bb [aN 74 18,aN 75 1,jw 76 39 75,iP 77 .lss 3 74 76] [1,6,7,17,18,68,69,77] (.cond (.t 77) .skip (.exit 6))) (.seq (.block 7 (.jX [aN 80 6,aN 81 17,aN 82 18,aN 83 7,aN 84 17,gw 85 121 83 84,cw 86 122 85,aN 87 7,aN 88 18,gw 89 121 87 88,cw 90 122 89,ro 91 (.call (.f 82) [(.t 80),(.t 81),(.t 82),(.t 86),(.t 90)])] [[],[],[],[],[],[3,4],[5],[],[],[7,8],[9],[0,1,2,6,10]] (some [1,6,7,17,18,68,69]))) (.eh [aN 78 18,dy 79 .add 3 78 1,cb 18 79] (some [1,6,7,17,18,68,69])))
def Z2:aA:=bb [iP 70 .lss 3 69 68] [1,6,7,68,69,70] (.seq (.cond (.t 70) .skip (.exit 4)) (.seq (.block 5 (bb [aN 71 69,cb 17 71] [1,6,7,17,68,69] (bb [aN 72 17,dy 73 .add 3 72 1,cb 18 73] [1,6,7,17,18,68,69] (.block 6 (.loop Z1))))) (.eh [dy 92 .add 3 69 1,aN 69 92] (some [1,6,7,68,69]))))
def anH:aA:=bb [cw 19 37 2,aN 20 1,ro 21 (.sU),ro 22 (.gB 140 [(0,(.t 19)),(1,(.t 20)),(3,(.t 21))]),ro 23 (.ir 140 (.t 22)),cb 6 23] [1,2,6] (bb [n3 7] [1,2,6,7] (.seq (bb [aN 24 1,jw 25 39 24,yl 26 0] [1,2,6,7,24,25,26] (.block 0 (.loop Z0))) (.seq (bb [aN 67 1,jw 68 39 67,yl 69 0] [1,6,7,68,69] (.block 4 (.loop Z2))) (se [aN 93 6,nH 94 93,dS 95 140 94 2,cw 96 67 95,aN 97 6,nH 98 97,dS 99 140 98 2,cw 100 67 99,jw 101 67 100,dy 102 .leq 3 101 200,⟨some 4,.p_ (.t 96),none⟩,cb 5 102] [[],[0],[1],[2],[],[4],[5],[6],[7],[8],[3,0,1,2,3],[9,10,0,1,2,3,4,5,6,7,8,9,10]] [4,5,6] .ret))))
def RY:aA:=bb [ro 2 (.ir 37 (.t 0)),n3 4,n2 5 false] [1,2] anH
noncomputable def c31:aA:=bT (bS 21 [0,1] Tryz.f31 [[1,2],[1,2,11],[4,5],[6,7],[6,19],[4,5],[4,5]])
noncomputable def c9:aA:=bT (bS 36 [0,1] Tryz.f9 [[1,2],[6,7],[6,7,18],[4,5],[6,8],[6,8,20,21,22],[6,8,20,21,22,23],[6,8,10,20,21,22],[6,8,20,21,22],[6,8,20,21,22],[8],[4,5]])
noncomputable def AH:aA:=bT (bS 26 [0,1] Tryz.f10 [[0,1],[0,1,10],[4],[0,1,5],[0,1,5,14],[0,1,5,25],[4],[0,1,5],[4]])
noncomputable def anI:aA:=bT (bS 15 [0,1] Tryz.f250 [[2,3],[2,3,9],[4],[14],[4],[4]])
noncomputable def anJ:aA:=bT (bS 27 [0,1] Tryz.f216 [[0,1],[0,1,10],[4],[0,1,5],[0,1,5,14],[0,1,5,26],[4],[0,1,5],[4]])
noncomputable def c183:aA:=bT (bS 27 [0,1] Tryz.f183 [[0,1],[0,1,10],[4],[0,1,5],[0,1,5,14],[0,1,5,26],[4],[0,1,5],[4]])
noncomputable def anK:aA:=bT (bS 26 [0,1] Tryz.f137 [[2,3],[2,3,9],[4],[2,3,14],[4],[2,3,19],[4],[25],[4],[4]])
noncomputable def anL:aA:=bT (bS 27 [0,1] Tryz.f94 [[0,1],[0,1,10],[4],[0,1,5],[0,1,5,14],[0,1,5,26],[4],[0,1,5],[4]])
noncomputable def anM:aA:=bT (bS 21 [0,1] Tryz.f60 [[2,3],[2,3,9],[4],[2,3,14],[4],[20],[4],[4]])
noncomputable def anN:aA:=bT (bS 27 [0,1] Tryz.f35 [[0,1],[0,1,10],[4],[0,1,5],[0,1,5,14],[0,1,5,26],[4],[0,1,5],[4]])
noncomputable def anO:aA:=bT (bS 26 [0,1] Tryz.f63 [[0,1],[0,1,10],[4],[0,1,5],[0,1,5,14],[0,1,5,25],[4],[0,1,5],[4]])
noncomputable def anP:aA:=bT (bS 16 [0,1] Tryz.f61 [[2,3],[2,3,9],[4],[15],[4],[4]])
noncomputable def anQ:aA:=bT (bS 27 [0,1] Tryz.f36 [[0,1],[0,1,10],[4],[0,1,5],[0,1,5,14],[0,1,5,26],[4],[0,1,5],[4]])
noncomputable def anR:aA:=bT (bS 20 [0,1] Tryz.f62 [[2,3],[2,3,9],[4],[2,3,14],[4],[19],[4],[4]])
noncomputable def c37:aA:=bT (bS 27 [0,1] Tryz.f37 [[0,1],[0,1,10],[4],[0,1,5],[0,1,5,14],[0,1,5,26],[4],[0,1,5],[4]])
noncomputable def anS:aA:=bT (bS 35 [0,1] Tryz.f11 [[2,3],[2,3,10],[4],[2,3,16],[4],[2,3,22],[4],[2,3,28],[4],[34],[4],[4]])
noncomputable def anT:aA:=bT (bS 21 [0,1] Tryz.f38 [[2,3],[2,3,9],[4],[2,3,14],[4],[20],[4],[4]])
noncomputable def c12:aA:=bT (bS 27 [0,1] Tryz.f12 [[0,1],[0,1,10],[4],[0,1,5],[0,1,5,14],[0,1,5,26],[4],[0,1,5],[4]])
def Z3:aA:=.seq (bb [aN 6 0,dy 7 .gtr 3 6 0] [0,3,7] (.cond (.t 7) .skip (.exit 0))) (.block 1 (bb [aN 8 0,dy 9 .rem 3 8 10,ro 10 (.eP .add 3 (.c (.int .i64 48)) (.t 9)),JM 11 3 5 10,uG 12 116 11,JM 13 116 9 12,aN 14 3,iP 15 .add 9 13 14,cb 3 15] [0,3] (.eh [aN 16 0,dy 17 .quo 3 16 10,cb 0 17] (some [0,3]))))
def anU:aA:=bb [ro 2 (.hN (.c (.str [])))] [0] (.seq (bb [aN 4 0,dy 5 .leq 3 4 0] [0,5] (.cond (.t 5) (bb [ro 2 (.hN (.c (.str [109,48])))] [2] .ret) .skip)) (bb [ro 3 (.hN (.c (.str [])))] [0,3] (.seq (.block 0 (.loop Z3)) (bb [aN 18 3,ro 19 (.eP .add 9 (.c (.str [109])) (.t 18)),cb 2 19] [2] .ret))))
noncomputable def c138:aA:=bT (bS 27 [0] Tryz.f138 [[0,1],[0,1,5],[0,1,5,9],[0,1,5],[0,1,5],[0,1,5],[0,1,5],[0,1,5],[0,4]])
noncomputable def anV:aA:=bT (bS 19 [0] Tryz.f95 [[0,1],[0,1,5],[0,1,5,9],[0,1,5],[0,1,5],[0,4]])
noncomputable def anW:aA:=bT (bS 42 [0] Tryz.f64 [[0,1],[0,1,5],[0,1,5,9],[0,1,5],[0,1,5],[0,1,5],[0,1,5],[0,1,5],[0,1,5],[0,1,5],[0,1,5],[0,4]])
noncomputable def anX:aA:=bT (bS 35 [0] Tryz.f39 [[0,1],[0,1,5],[0,1,5,9],[0,1,5],[0,1,5],[0,1,5],[0,1,5],[0,1,5],[0,1,5],[0,4]])
noncomputable def anY:aA:=bT (bS 19 [0] Tryz.f42 [[0,1],[0,1,5],[0,1,5,9],[0,1,5],[0,1,5],[0,1,5],[0,4]])
noncomputable def c40:aA:=bT (bS 27 [0] Tryz.f40 [[0,1],[0,1,5],[0,1,5,9],[0,1,5],[0,1,5],[0,1,5],[0,1,5],[0,4]])
noncomputable def anZ:aA:=bT (bS 37 [0] Tryz.f41 [[0,1],[0,1,5],[0,1,5,9],[0,1,5],[0,1,5],[0,1,5],[0,1,5],[0,1,5],[0,1,5],[0,1,5],[0,4]])
noncomputable def an0:aA:=bT (bS 20 [0] Tryz.f15 [[0,1],[0,1,5],[0,1,5,9],[0,1,5],[0,1,5],[0,1,5],[0,4]])
def an1:aA:=bb [dS 5 37 2 0,cw 6 33 5,aN 7 1,⟨some 8,.mU (.f 39) [(.t 6),(.t 7)] [2],none⟩,cb 1 8] [0,1,2] (bb [dS 9 37 2 1,cw 10 34 9,aN 11 1,⟨some 12,.mU (.f 40) [(.t 10),(.t 11)] [2],none⟩,cb 1 12] [0,1,2] (bb [dS 13 37 2 2,cw 14 35 13,aN 15 1,⟨some 16,.mU (.f 41) [(.t 14),(.t 15)] [2],none⟩,cb 1 16] [0,1,2] (bb [dS 17 37 2 3,cw 18 25 17,aN 19 1,⟨some 20,.mU (.f 15) [(.t 18),(.t 19)] [2],none⟩,cb 1 20] [0,1,2] (bb [dS 21 37 2 4,cw 22 25 21,aN 23 1,j1 24 15 22 23,cb 1 24] [0,1] (bb [aN 25 1,cb 4 25] [0,4] .ret)))))
def an2:aA:=bb [⟨some 2,.mg 37 (.t 0),none⟩,ie 4 0] [0,1,2] an1
noncomputable def gU:aA:=bT (bS 34 [0] Tryz.f14 [[0,1],[0,1,5],[0,1,5,9],[0,1,5],[0,1,5],[0,1,5],[0,1,5],[0,1,5],[0,1,5],[0,4]])
noncomputable def kL:aA:=bT (bS 22 [0] Tryz.f16 [[0,1],[0,1,5],[0,1,5,9],[0,1,5,18],[4],[0,1,5],[0,1,5],[4]])
noncomputable def c3:aA:=bT (bS 119 [0,1] Tryz.f3 [[1,2],[1,2,5],[1,2,5],[1,2,5,21],[4],[1,2,5],[1,2,26],[4],[1,2,6,7],[1,2,6,7,8],[1,2,6,7,8,9],[1,2,6,7,8,9,10,11],[1,2,6,7,8,9,10,11,53],[4],[1,2,6,7,8,9,10,11,58],[4],[1,2,6,7,8,9,10,11,63],[4],[1,2,6,7,8,9,10,11,12],[1,2,6,7,9,10,11,12],[1,2,6,7,10,11,12],[1,2,6,7,10,82],[4],[1,2,6,7,10,13],[1,2,6,7,10,13],[1,2,6,7,10,13,14],[1,2,6,7,10,13,14],[1,2,6,7,10,13,14,90],[4],[1,2,6,7,10,13,93],[4],[6,7,10,13,15,16],[10,13,110],[4],[10,13,14],[13,14],[13,14,115],[4],[118],[4],[4]])
def Hz:=PLift.up (And.intro @Bool.not_true @Bool.not_false)
def azI:=PLift.up (And.intro @length_append.{0} (And.intro @length_cons.{0} (And.intro @length_nil.{0} (And.intro @length_map.{0,0} (And.intro @length_replicate.{0} (And.intro @Nat.zero_add @Nat.add_zero))))))
end Go.Proofs.YtafceioodemeeaaGreatDoor
namespace Go.Proofs.YtafceioodemeeaaGreatDoor
open List Option Go.IntKind Nat Or
open Go Go.en Go.pO Go.Shelf
set_option maxRecDepth 100000
def Tryz.an3:Go.Shelf.Ren:=⟨λ|44=>34|n=>n,λ|25=>25|26=>9|3=>3|4=>4|0=>0|n=>n,λ|n=>n⟩
theorem Tryz.lcs:Go.Proofs.SlLaysN.n44 Tryz.prog Tryz.an3:={
 mixed:=by kernel_rfl
 f44:=⟨Tryz.f34.name,by decide,Tryz.func34.trans (congrArg some (by kernel_rfl))⟩
 t0:=Tryz.underlying0
 a0:=Tryz.isAgg0
 z0:=Tryz.sizeOf0
 v0:=Tryz.zeroValue0
 t3:=Tryz.underlying3
 a3:=Tryz.isAgg3
 z3:=Tryz.sizeOf3
 v3:=Tryz.zeroValue3
 t4:=Tryz.underlying4
 a4:=Tryz.isAgg4
 z4:=Tryz.sizeOf4
 v4:=Tryz.zeroValue4
 t25:=Tryz.underlying25
 a25:=Tryz.isAgg25
 z25:=Tryz.sizeOf25
 v25:=Tryz.zeroValue25
 t26:=Tryz.underlying9
 a26:=Tryz.isAgg9
 z26:=Tryz.sizeOf9
 v26:=Tryz.zeroValue9
 i26:=by kernel_rfl}
def Tryz.an4:Go.Shelf.Ren:=⟨λ|173=>177|246=>211|283=>243|284=>244|285=>245|286=>246|129=>92|317=>269|318=>270|319=>271|320=>272|337=>284|338=>285|n=>n,λ|2=>2|3=>3|9=>9|4=>4|171=>303|0=>0|53=>157|37=>116|5=>5|173=>305|212=>324|51=>155|20=>20|213=>325|46=>110|232=>342|233=>343|n=>n,λ|17=>1|18=>6|19=>7|n=>n⟩
theorem Tryz.azJ:Go.Proofs.Lays.n173 Tryz.prog Tryz.an4:={
 mixed:=by kernel_rfl
 f129:=Tryz.func92.trans (congrArg some (by kernel_rfl))
 f173:=Tryz.func177.trans (congrArg some (by kernel_rfl))
 f246:=Tryz.func211.trans (congrArg some (by kernel_rfl))
 f283:=Tryz.func243.trans (congrArg some (by kernel_rfl))
 f284:=Tryz.func244.trans (congrArg some (by kernel_rfl))
 f285:=Tryz.func245.trans (congrArg some (by kernel_rfl))
 f286:=Tryz.func246.trans (congrArg some (by kernel_rfl))
 f317:=Tryz.func269.trans (congrArg some (by kernel_rfl))
 f318:=Tryz.func270.trans (congrArg some (by kernel_rfl))
 f319:=Tryz.func271.trans (congrArg some (by kernel_rfl))
 f320:=Tryz.func272.trans (congrArg some (by kernel_rfl))
 f337:=Tryz.func284.trans (congrArg some (by kernel_rfl))
 f338:=Tryz.func285.trans (congrArg some (by kernel_rfl))
 t0:=Tryz.underlying0
 a0:=Tryz.isAgg0
 z0:=Tryz.sizeOf0
 v0:=Tryz.zeroValue0
 t2:=Tryz.underlying2
 a2:=Tryz.isAgg2
 z2:=Tryz.sizeOf2
 v2:=Tryz.zeroValue2
 t3:=Tryz.underlying3
 a3:=Tryz.isAgg3
 z3:=Tryz.sizeOf3
 v3:=Tryz.zeroValue3
 t4:=Tryz.underlying4
 a4:=Tryz.isAgg4
 z4:=Tryz.sizeOf4
 v4:=Tryz.zeroValue4
 t5:=Tryz.underlying5
 a5:=Tryz.isAgg5
 z5:=Tryz.sizeOf5
 v5:=Tryz.zeroValue5
 t9:=Tryz.underlying9
 a9:=Tryz.isAgg9
 z9:=Tryz.sizeOf9
 v9:=Tryz.zeroValue9
 t20:=Tryz.underlying20
 a20:=Tryz.isAgg20
 z20:=Tryz.sizeOf20
 v20:=Tryz.zeroValue20
 t37:=Tryz.underlying116
 a37:=Tryz.isAgg116
 z37:=Tryz.sizeOf116
 v37:=Tryz.zeroValue116
 t46:=Tryz.underlying110
 a46:=Tryz.isAgg110
 z46:=Tryz.sizeOf110
 v46:=Tryz.zeroValue110
 t51:=Tryz.underlying155
 a51:=Tryz.isAgg155
 z51:=Tryz.sizeOf155
 v51:=Tryz.zeroValue155
 t53:=Tryz.underlying157
 a53:=Tryz.isAgg157
 z53:=Tryz.sizeOf157
 v53:=Tryz.zeroValue157
 t171:=Tryz.underlying303
 a171:=Tryz.isAgg303
 z171:=Tryz.sizeOf303
 v171:=Tryz.zeroValue303
 t173:=Tryz.underlying305
 a173:=Tryz.isAgg305
 z173:=Tryz.sizeOf305
 v173:=Tryz.zeroValue305
 t212:=Tryz.underlying324
 a212:=Tryz.isAgg324
 z212:=Tryz.sizeOf324
 v212:=Tryz.zeroValue324
 t213:=Tryz.underlying325
 a213:=Tryz.isAgg325
 z213:=Tryz.sizeOf325
 t232:=Tryz.underlying342
 a232:=Tryz.isAgg342
 z232:=Tryz.sizeOf342
 v232:=Tryz.zeroValue342
 t233:=Tryz.underlying343
 a233:=Tryz.isAgg343
 z233:=Tryz.sizeOf343
 v233:=Tryz.zeroValue343
 g17:=by kernel_rfl
 g18:=by kernel_rfl
 g19:=by kernel_rfl}
def Tryz.Z4:Go.Shelf.Ren:=⟨λ|156=>179|165=>213|166=>214|169=>215|240=>248|241=>249|276=>274|277=>275|n=>n,λ|31=>25|9=>9|3=>3|4=>4|0=>0|20=>20|72=>276|76=>278|70=>274|37=>116|75=>269|127=>307|164=>327|5=>5|80=>280|n=>n,λ|n=>n⟩
theorem Tryz.RZ:Go.Proofs.Lays.n156 Tryz.prog Tryz.Z4:={
 mixed:=by kernel_rfl
 f156:=Tryz.func179.trans (congrArg some (by kernel_rfl))
 f165:=Tryz.func213.trans (congrArg some (by kernel_rfl))
 f166:=Tryz.func214.trans (congrArg some (by kernel_rfl))
 f169:=Tryz.func215.trans (congrArg some (by kernel_rfl))
 f240:=Tryz.func248.trans (congrArg some (by kernel_rfl))
 f241:=Tryz.func249.trans (congrArg some (by kernel_rfl))
 f276:=Tryz.func274.trans (congrArg some (by kernel_rfl))
 f277:=Tryz.func275.trans (congrArg some (by kernel_rfl))
 t0:=Tryz.underlying0
 a0:=Tryz.isAgg0
 z0:=Tryz.sizeOf0
 v0:=Tryz.zeroValue0
 t3:=Tryz.underlying3
 a3:=Tryz.isAgg3
 z3:=Tryz.sizeOf3
 v3:=Tryz.zeroValue3
 t4:=Tryz.underlying4
 a4:=Tryz.isAgg4
 z4:=Tryz.sizeOf4
 v4:=Tryz.zeroValue4
 t9:=Tryz.underlying9
 a9:=Tryz.isAgg9
 z9:=Tryz.sizeOf9
 v9:=Tryz.zeroValue9
 t20:=Tryz.underlying20
 a20:=Tryz.isAgg20
 z20:=Tryz.sizeOf20
 v20:=Tryz.zeroValue20
 t31:=Tryz.underlying25
 a31:=Tryz.isAgg25
 z31:=Tryz.sizeOf25
 v31:=Tryz.zeroValue25
 t37:=Tryz.underlying116
 a37:=Tryz.isAgg116
 z37:=Tryz.sizeOf116
 v37:=Tryz.zeroValue116
 t70:=Tryz.underlying274
 a70:=Tryz.isAgg274
 z70:=Tryz.sizeOf274
 v70:=Tryz.zeroValue274
 t72:=Tryz.underlying276
 a72:=Tryz.isAgg276
 z72:=Tryz.sizeOf276
 v72:=Tryz.zeroValue276
 t75:=Tryz.underlying269
 a75:=Tryz.isAgg269
 z75:=Tryz.sizeOf269
 v75:=Tryz.zeroValue269
 t76:=Tryz.underlying278
 a76:=Tryz.isAgg278
 z76:=Tryz.sizeOf278
 v76:=Tryz.zeroValue278
 t127:=Tryz.underlying307
 a127:=Tryz.isAgg307
 z127:=Tryz.sizeOf307
 v127:=Tryz.zeroValue307
 t164:=Tryz.underlying327
 a164:=Tryz.isAgg327
 z164:=Tryz.sizeOf327
 v164:=Tryz.zeroValue327}
theorem Tryz.Z5:Builder.Extra Tryz.prog Tryz.Z4:={
 sizeBuilder:=by kernel_rfl
 liesBuilder:=by kernel_rfl
 t5:=Tryz.underlying5
 a5:=Tryz.isAgg5
 z5:=Tryz.sizeOf5
 v5:=Tryz.zeroValue5
 infoByte:=by kernel_rfl
 cellsByte:=by kernel_rfl
 sizeByte:=by kernel_rfl
 neB5:=by decide}
def Tryz.an5:Go.Shelf.Ren:=⟨λ|101=>205|208=>237|206=>262|n=>n,λ|9=>9|4=>4|3=>3|n=>n,λ|n=>n⟩
theorem Tryz.R0:Go.Proofs.Lays.n101 Tryz.prog Tryz.an5:={
 mixed:=by kernel_rfl
 f101:=Tryz.func205.trans (congrArg some (by kernel_rfl))
 f206:=Tryz.func262.trans (congrArg some (by kernel_rfl))
 f208:=Tryz.func237.trans (congrArg some (by kernel_rfl))
 t3:=Tryz.underlying3
 a3:=Tryz.isAgg3
 z3:=Tryz.sizeOf3
 v3:=Tryz.zeroValue3
 t4:=Tryz.underlying4
 a4:=Tryz.isAgg4
 z4:=Tryz.sizeOf4
 v4:=Tryz.zeroValue4
 t9:=Tryz.underlying9
 a9:=Tryz.isAgg9
 z9:=Tryz.sizeOf9
 v9:=Tryz.zeroValue9}
def Tryz.an6:Go.Shelf.Ren:=⟨λ|174=>206|247=>238|245=>239|287=>263|279=>264|280=>265|281=>266|282=>267|321=>279|322=>280|316=>281|171=>283|205=>282|243=>287|246=>211|283=>243|284=>244|285=>245|286=>246|129=>92|317=>269|318=>270|319=>271|320=>272|337=>284|338=>285|n=>n,λ|9=>9|3=>3|2=>2|75=>269|85=>270|4=>4|167=>317|5=>5|53=>157|175=>318|46=>110|168=>320|37=>116|0=>0|210=>333|21=>21|127=>307|145=>341|143=>339|171=>303|173=>305|212=>324|51=>155|20=>20|213=>325|232=>342|233=>343|80=>280|n=>n,λ|15=>2|16=>3|17=>1|18=>6|19=>7|n=>n⟩
theorem Tryz.Z6:Go.Proofs.LaysC.n174 Tryz.prog Tryz.an6:={
 mixed:=by kernel_rfl
 f129:=Tryz.func92.trans (congrArg some (by kernel_rfl))
 f171:=Tryz.func283.trans (congrArg some (by kernel_rfl))
 f174:=Tryz.func206.trans (congrArg some (by kernel_rfl))
 f205:=Tryz.func282.trans (congrArg some (by kernel_rfl))
 f243:=Tryz.func287.trans (congrArg some (by kernel_rfl))
 f245:=Tryz.func239.trans (congrArg some (by kernel_rfl))
 f246:=Tryz.func211.trans (congrArg some (by kernel_rfl))
 f247:=Tryz.func238.trans (congrArg some (by kernel_rfl))
 f279:=Tryz.func264.trans (congrArg some (by kernel_rfl))
 f280:=Tryz.func265.trans (congrArg some (by kernel_rfl))
 f281:=Tryz.func266.trans (congrArg some (by kernel_rfl))
 f282:=Tryz.func267.trans (congrArg some (by kernel_rfl))
 f283:=Tryz.func243.trans (congrArg some (by kernel_rfl))
 f284:=Tryz.func244.trans (congrArg some (by kernel_rfl))
 f285:=Tryz.func245.trans (congrArg some (by kernel_rfl))
 f286:=Tryz.func246.trans (congrArg some (by kernel_rfl))
 f287:=Tryz.func263.trans (congrArg some (by kernel_rfl))
 f316:=Tryz.func281.trans (congrArg some (by kernel_rfl))
 f317:=Tryz.func269.trans (congrArg some (by kernel_rfl))
 f318:=Tryz.func270.trans (congrArg some (by kernel_rfl))
 f319:=Tryz.func271.trans (congrArg some (by kernel_rfl))
 f320:=Tryz.func272.trans (congrArg some (by kernel_rfl))
 f321:=Tryz.func279.trans (congrArg some (by kernel_rfl))
 f322:=Tryz.func280.trans (congrArg some (by kernel_rfl))
 f337:=Tryz.func284.trans (congrArg some (by kernel_rfl))
 f338:=Tryz.func285.trans (congrArg some (by kernel_rfl))
 t0:=Tryz.underlying0
 a0:=Tryz.isAgg0
 z0:=Tryz.sizeOf0
 v0:=Tryz.zeroValue0
 t2:=Tryz.underlying2
 a2:=Tryz.isAgg2
 z2:=Tryz.sizeOf2
 v2:=Tryz.zeroValue2
 t3:=Tryz.underlying3
 a3:=Tryz.isAgg3
 z3:=Tryz.sizeOf3
 v3:=Tryz.zeroValue3
 t4:=Tryz.underlying4
 a4:=Tryz.isAgg4
 z4:=Tryz.sizeOf4
 v4:=Tryz.zeroValue4
 t5:=Tryz.underlying5
 a5:=Tryz.isAgg5
 z5:=Tryz.sizeOf5
 v5:=Tryz.zeroValue5
 t9:=Tryz.underlying9
 a9:=Tryz.isAgg9
 z9:=Tryz.sizeOf9
 v9:=Tryz.zeroValue9
 t20:=Tryz.underlying20
 a20:=Tryz.isAgg20
 z20:=Tryz.sizeOf20
 v20:=Tryz.zeroValue20
 t21:=Tryz.underlying21
 a21:=Tryz.isAgg21
 z21:=Tryz.sizeOf21
 v21:=Tryz.zeroValue21
 t37:=Tryz.underlying116
 a37:=Tryz.isAgg116
 z37:=Tryz.sizeOf116
 v37:=Tryz.zeroValue116
 t46:=Tryz.underlying110
 a46:=Tryz.isAgg110
 z46:=Tryz.sizeOf110
 v46:=Tryz.zeroValue110
 t51:=Tryz.underlying155
 a51:=Tryz.isAgg155
 z51:=Tryz.sizeOf155
 v51:=Tryz.zeroValue155
 t53:=Tryz.underlying157
 a53:=Tryz.isAgg157
 z53:=Tryz.sizeOf157
 v53:=Tryz.zeroValue157
 t75:=Tryz.underlying269
 a75:=Tryz.isAgg269
 z75:=Tryz.sizeOf269
 v75:=Tryz.zeroValue269
 t85:=Tryz.underlying270
 a85:=Tryz.isAgg270
 z85:=Tryz.sizeOf270
 v85:=Tryz.zeroValue270
 t127:=Tryz.underlying307
 a127:=Tryz.isAgg307
 z127:=Tryz.sizeOf307
 v127:=Tryz.zeroValue307
 t143:=Tryz.underlying339
 a143:=Tryz.isAgg339
 z143:=Tryz.sizeOf339
 v143:=Tryz.zeroValue339
 t145:=Tryz.underlying341
 a145:=Tryz.isAgg341
 z145:=Tryz.sizeOf341
 v145:=Tryz.zeroValue341
 t167:=Tryz.underlying317
 a167:=Tryz.isAgg317
 z167:=Tryz.sizeOf317
 v167:=Tryz.zeroValue317
 t168:=Tryz.underlying320
 a168:=Tryz.isAgg320
 z168:=Tryz.sizeOf320
 v168:=Tryz.zeroValue320
 t171:=Tryz.underlying303
 a171:=Tryz.isAgg303
 z171:=Tryz.sizeOf303
 v171:=Tryz.zeroValue303
 t173:=Tryz.underlying305
 a173:=Tryz.isAgg305
 z173:=Tryz.sizeOf305
 v173:=Tryz.zeroValue305
 t175:=Tryz.underlying318
 a175:=Tryz.isAgg318
 z175:=Tryz.sizeOf318
 v175:=Tryz.zeroValue318
 t210:=Tryz.underlying333
 a210:=Tryz.isAgg333
 z210:=Tryz.sizeOf333
 v210:=Tryz.zeroValue333
 t212:=Tryz.underlying324
 a212:=Tryz.isAgg324
 z212:=Tryz.sizeOf324
 v212:=Tryz.zeroValue324
 t213:=Tryz.underlying325
 a213:=Tryz.isAgg325
 z213:=Tryz.sizeOf325
 t232:=Tryz.underlying342
 a232:=Tryz.isAgg342
 z232:=Tryz.sizeOf342
 v232:=Tryz.zeroValue342
 t233:=Tryz.underlying343
 a233:=Tryz.isAgg343
 z233:=Tryz.sizeOf343
 v233:=Tryz.zeroValue343
 g15:=by kernel_rfl
 g16:=by kernel_rfl
 g17:=by kernel_rfl
 g18:=by kernel_rfl
 g19:=by kernel_rfl
 t80:=Tryz.underlying280
 a80:=Tryz.isAgg280
 z80:=Tryz.sizeOf280
 v80:=Tryz.zeroValue280
 i0:=by kernel_rfl
 i2:=by kernel_rfl
 i3:=by kernel_rfl
 i4:=by kernel_rfl
 i5:=by kernel_rfl
 i9:=by kernel_rfl
 i20:=by kernel_rfl
 i21:=by kernel_rfl
 i37:=by kernel_rfl
 i46:=by kernel_rfl
 i51:=by kernel_rfl
 i53:=by kernel_rfl
 i75:=by kernel_rfl
 i80:=by kernel_rfl
 i85:=by kernel_rfl
 i127:=by kernel_rfl
 i143:=by kernel_rfl
 i145:=by kernel_rfl
 i167:=by kernel_rfl
 i168:=by kernel_rfl
 i171:=by kernel_rfl
 i173:=by kernel_rfl
 i175:=by kernel_rfl
 i210:=by kernel_rfl
 i212:=by kernel_rfl
 i232:=by kernel_rfl
 i233:=by kernel_rfl
 m15:=by kernel_rfl
 m16:=by kernel_rfl
 m17:=by kernel_rfl
 m18:=by kernel_rfl
 m19:=by kernel_rfl
 c0:=by kernel_rfl
 c2:=by kernel_rfl
 c3:=by kernel_rfl
 c4:=by kernel_rfl
 c5:=by kernel_rfl
 c9:=by kernel_rfl
 c20:=by kernel_rfl
 c21:=by kernel_rfl
 c37:=by kernel_rfl
 c46:=by kernel_rfl
 c51:=by kernel_rfl
 c53:=by kernel_rfl
 c75:=by kernel_rfl
 c80:=by kernel_rfl
 c85:=by kernel_rfl
 c127:=by kernel_rfl
 c143:=by kernel_rfl
 c145:=by kernel_rfl
 c167:=by kernel_rfl
 c168:=by kernel_rfl
 c171:=by kernel_rfl
 c173:=by kernel_rfl
 c175:=by kernel_rfl
 c210:=by kernel_rfl
 c212:=by kernel_rfl
 c213:=by kernel_rfl
 c232:=by kernel_rfl
 c233:=by kernel_rfl}
def Tryz.an7:Go.Shelf.Ren:=⟨λ|173=>177|246=>211|283=>243|284=>244|285=>245|286=>246|129=>92|317=>269|318=>270|319=>271|320=>272|337=>284|338=>285|n=>n,λ|2=>2|3=>3|9=>9|4=>4|171=>303|0=>0|53=>157|37=>116|5=>5|173=>305|212=>324|51=>155|20=>20|213=>325|46=>110|232=>342|233=>343|n=>n,λ|17=>1|18=>6|19=>7|n=>n⟩
theorem Tryz.R1:Go.Proofs.LaysM.n173 Tryz.prog Tryz.an7:={
 mixed:=by kernel_rfl
 f129:=Tryz.func92.trans (congrArg some (by kernel_rfl))
 f173:=Tryz.func177.trans (congrArg some (by kernel_rfl))
 f246:=Tryz.func211.trans (congrArg some (by kernel_rfl))
 f283:=Tryz.func243.trans (congrArg some (by kernel_rfl))
 f284:=Tryz.func244.trans (congrArg some (by kernel_rfl))
 f285:=Tryz.func245.trans (congrArg some (by kernel_rfl))
 f286:=Tryz.func246.trans (congrArg some (by kernel_rfl))
 f317:=Tryz.func269.trans (congrArg some (by kernel_rfl))
 f318:=Tryz.func270.trans (congrArg some (by kernel_rfl))
 f319:=Tryz.func271.trans (congrArg some (by kernel_rfl))
 f320:=Tryz.func272.trans (congrArg some (by kernel_rfl))
 f337:=Tryz.func284.trans (congrArg some (by kernel_rfl))
 f338:=Tryz.func285.trans (congrArg some (by kernel_rfl))
 t0:=Tryz.underlying0
 a0:=Tryz.isAgg0
 z0:=Tryz.sizeOf0
 v0:=Tryz.zeroValue0
 t2:=Tryz.underlying2
 a2:=Tryz.isAgg2
 z2:=Tryz.sizeOf2
 v2:=Tryz.zeroValue2
 t3:=Tryz.underlying3
 a3:=Tryz.isAgg3
 z3:=Tryz.sizeOf3
 v3:=Tryz.zeroValue3
 t4:=Tryz.underlying4
 a4:=Tryz.isAgg4
 z4:=Tryz.sizeOf4
 v4:=Tryz.zeroValue4
 t5:=Tryz.underlying5
 a5:=Tryz.isAgg5
 z5:=Tryz.sizeOf5
 v5:=Tryz.zeroValue5
 t9:=Tryz.underlying9
 a9:=Tryz.isAgg9
 z9:=Tryz.sizeOf9
 v9:=Tryz.zeroValue9
 t20:=Tryz.underlying20
 a20:=Tryz.isAgg20
 z20:=Tryz.sizeOf20
 v20:=Tryz.zeroValue20
 t37:=Tryz.underlying116
 a37:=Tryz.isAgg116
 z37:=Tryz.sizeOf116
 v37:=Tryz.zeroValue116
 t46:=Tryz.underlying110
 a46:=Tryz.isAgg110
 z46:=Tryz.sizeOf110
 v46:=Tryz.zeroValue110
 t51:=Tryz.underlying155
 a51:=Tryz.isAgg155
 z51:=Tryz.sizeOf155
 v51:=Tryz.zeroValue155
 t53:=Tryz.underlying157
 a53:=Tryz.isAgg157
 z53:=Tryz.sizeOf157
 v53:=Tryz.zeroValue157
 t171:=Tryz.underlying303
 a171:=Tryz.isAgg303
 z171:=Tryz.sizeOf303
 v171:=Tryz.zeroValue303
 t173:=Tryz.underlying305
 a173:=Tryz.isAgg305
 z173:=Tryz.sizeOf305
 v173:=Tryz.zeroValue305
 t212:=Tryz.underlying324
 a212:=Tryz.isAgg324
 z212:=Tryz.sizeOf324
 v212:=Tryz.zeroValue324
 t213:=Tryz.underlying325
 a213:=Tryz.isAgg325
 z213:=Tryz.sizeOf325
 t232:=Tryz.underlying342
 a232:=Tryz.isAgg342
 z232:=Tryz.sizeOf342
 v232:=Tryz.zeroValue342
 t233:=Tryz.underlying343
 a233:=Tryz.isAgg343
 z233:=Tryz.sizeOf343
 v233:=Tryz.zeroValue343
 g17:=by kernel_rfl
 g18:=by kernel_rfl
 g19:=by kernel_rfl
 i0:=by kernel_rfl
 i2:=by kernel_rfl
 i3:=by kernel_rfl
 i4:=by kernel_rfl
 i5:=by kernel_rfl
 i9:=by kernel_rfl
 i20:=by kernel_rfl
 i37:=by kernel_rfl
 i46:=by kernel_rfl
 i51:=by kernel_rfl
 i53:=by kernel_rfl
 i171:=by kernel_rfl
 i173:=by kernel_rfl
 i212:=by kernel_rfl
 i232:=by kernel_rfl
 i233:=by kernel_rfl
 m17:=by kernel_rfl
 m18:=by kernel_rfl
 m19:=by kernel_rfl}
def Tryz.an8:Go.Shelf.Ren:=⟨λ|106=>59|213=>93|265=>136|n=>n,λ|9=>9|3=>3|n=>n,λ|n=>n⟩
theorem Tryz.an9:Go.Proofs.Lays.n106 Tryz.prog Tryz.an8:={
 mixed:=by kernel_rfl
 f106:=Tryz.func59.trans (congrArg some (by kernel_rfl))
 f213:=Tryz.func93.trans (congrArg some (by kernel_rfl))
 f265:=Tryz.func136.trans (congrArg some (by kernel_rfl))
 t3:=Tryz.underlying3
 a3:=Tryz.isAgg3
 z3:=Tryz.sizeOf3
 v3:=Tryz.zeroValue3
 t9:=Tryz.underlying9
 a9:=Tryz.isAgg9
 z9:=Tryz.sizeOf9
 v9:=Tryz.zeroValue9}
def Tryz.an_:Go.Shelf.Ren:=⟨λ|6=>32|15=>58|14=>57|28=>91|29=>92|20=>83|21=>84|22=>85|23=>86|24=>87|25=>88|26=>89|27=>90|46=>131|47=>132|48=>133|49=>134|50=>135|57=>182|n=>n,λ|22=>25|24=>9|25=>73|3=>3|39=>110|0=>0|53=>155|55=>157|4=>4|46=>148|45=>147|50=>152|5=>5|9=>9|66=>204|70=>208|76=>244|77=>245|n=>n,λ|n=>n⟩
theorem Tryz.R2:Go.Proofs.SlLaysF.n6 Tryz.prog Tryz.an_:={
 mixed:=by kernel_rfl
 f6:=⟨Tryz.f32.name,by decide,Tryz.func32.trans (congrArg some (by kernel_rfl))⟩
 f14:=⟨Tryz.f57.name,by decide,Tryz.func57.trans (congrArg some (by kernel_rfl))⟩
 f15:=Tryz.func58.trans (congrArg some (by kernel_rfl))
 f20:=⟨Tryz.f83.name,by decide,Tryz.func83.trans (congrArg some (by kernel_rfl))⟩
 f21:=⟨Tryz.f84.name,by decide,Tryz.func84.trans (congrArg some (by kernel_rfl))⟩
 f22:=⟨Tryz.f85.name,by decide,Tryz.func85.trans (congrArg some (by kernel_rfl))⟩
 f23:=⟨Tryz.f86.name,by decide,Tryz.func86.trans (congrArg some (by kernel_rfl))⟩
 f24:=⟨Tryz.f87.name,by decide,Tryz.func87.trans (congrArg some (by kernel_rfl))⟩
 f25:=⟨Tryz.f88.name,by decide,Tryz.func88.trans (congrArg some (by kernel_rfl))⟩
 f26:=⟨Tryz.f89.name,by decide,Tryz.func89.trans (congrArg some (by kernel_rfl))⟩
 f27:=⟨Tryz.f90.name,by decide,Tryz.func90.trans (congrArg some (by kernel_rfl))⟩
 f28:=Tryz.func91.trans (congrArg some (by kernel_rfl))
 f29:=Tryz.func92.trans (congrArg some (by kernel_rfl))
 f46:=⟨Tryz.f131.name,by decide,Tryz.func131.trans (congrArg some (by kernel_rfl))⟩
 f47:=Tryz.func132.trans (congrArg some (by kernel_rfl))
 f48:=Tryz.func133.trans (congrArg some (by kernel_rfl))
 f49:=⟨Tryz.f134.name,by decide,Tryz.func134.trans (congrArg some (by kernel_rfl))⟩
 f50:=⟨Tryz.f135.name,by decide,Tryz.func135.trans (congrArg some (by kernel_rfl))⟩
 f57:=⟨Tryz.f182.name,by decide,Tryz.func182.trans (congrArg some (by kernel_rfl))⟩
 t0:=Tryz.underlying0
 a0:=Tryz.isAgg0
 z0:=Tryz.sizeOf0
 v0:=Tryz.zeroValue0
 t3:=Tryz.underlying3
 a3:=Tryz.isAgg3
 z3:=Tryz.sizeOf3
 v3:=Tryz.zeroValue3
 t4:=Tryz.underlying4
 a4:=Tryz.isAgg4
 z4:=Tryz.sizeOf4
 v4:=Tryz.zeroValue4
 t5:=Tryz.underlying5
 a5:=Tryz.isAgg5
 z5:=Tryz.sizeOf5
 v5:=Tryz.zeroValue5
 t9:=Tryz.underlying9
 a9:=Tryz.isAgg9
 z9:=Tryz.sizeOf9
 v9:=Tryz.zeroValue9
 t22:=Tryz.underlying25
 a22:=Tryz.isAgg25
 z22:=Tryz.sizeOf25
 v22:=Tryz.zeroValue25
 a24:=Tryz.isAgg9
 z24:=Tryz.sizeOf9
 t25:=Tryz.underlying73
 a25:=Tryz.isAgg73
 z25:=Tryz.sizeOf73
 v25:=Tryz.zeroValue73
 t39:=Tryz.underlying110
 a39:=Tryz.isAgg110
 z39:=Tryz.sizeOf110
 v39:=Tryz.zeroValue110
 t45:=Tryz.underlying147
 a45:=Tryz.isAgg147
 z45:=Tryz.sizeOf147
 v45:=Tryz.zeroValue147
 t46:=Tryz.underlying148
 a46:=Tryz.isAgg148
 z46:=Tryz.sizeOf148
 v46:=Tryz.zeroValue148
 t50:=Tryz.underlying152
 a50:=Tryz.isAgg152
 z50:=Tryz.sizeOf152
 v50:=Tryz.zeroValue152
 t53:=Tryz.underlying155
 a53:=Tryz.isAgg155
 z53:=Tryz.sizeOf155
 v53:=Tryz.zeroValue155
 t55:=Tryz.underlying157
 a55:=Tryz.isAgg157
 z55:=Tryz.sizeOf157
 v55:=Tryz.zeroValue157
 t66:=Tryz.underlying204
 a66:=Tryz.isAgg204
 z66:=Tryz.sizeOf204
 v66:=Tryz.zeroValue204
 t70:=Tryz.underlying208
 a70:=Tryz.isAgg208
 z70:=Tryz.sizeOf208
 v70:=Tryz.zeroValue208
 t76:=Tryz.underlying244
 a76:=Tryz.isAgg244
 z76:=Tryz.sizeOf244
 v76:=Tryz.zeroValue244
 t77:=Tryz.underlying245
 a77:=Tryz.isAgg245
 z77:=Tryz.sizeOf245
 v77:=Tryz.zeroValue245}
theorem R3:One aE (λx=>.string ⟨⟨x⟩⟩):=⟨λ_=>rfl,λw F x cs S=>by unfold aE;rw[az]⟩
theorem aoa (a r:aAb) (h:K5 a=some r):aW ai 34 [.ag 1 (a.map aE)] (.ag 1 (r.map aE)) [.hole]:=by
 cases h;rw[<-YW a];have hle:(Lib.compact a).length<=a.length:=by rw[YW];exact YV none a
 refine aW.shorter (C:=ai) (f:=34) R3 (λargs w=>Tryz.lcs.f44.enters rfl args w) a (Lib.compact a) (replicate (a.length-(Lib.compact a).length) ([]:aAc)) (by simp only[length_append,length_replicate];omega) (λx w=>AnyG.slices_Compact_string_empty Tryz.lcs x 0 w) (λw b cap hH ab au hm=>?_);refine(AnyG.slices_Compact_string Tryz.lcs b 0 cap a w hH (Nat.le_trans au (by simpa [maxLen]using hm)) au).mono ?_;rintro e aJ ⟨rfl,q,cF⟩;exact⟨rfl,q,#[],by rw[Sort.grow_empty];exact cF⟩
theorem Z7 (n:Nat):yz n=Lib.decDigits n:=by
 induction n using Nat.strongRecOn with
 |_ n ih=>
  rw[yz,Lib.decDigits];by_cases h:n<10
  .rw[dif_pos h,dif_pos h]
  .rw[dif_neg h,dif_neg h,ih (n/10) (by omega)]
theorem aob (n:Int):G1 n=Lib.itoa n:=by
 unfold G1 Lib.itoa;rw[Z7,Z7]
theorem aoc {w:World} (hg:ub w λ_=>False):Lib.TabIs Tryz.prog w "internal/strconv.uint64pow10" .u64 Lib.pow10Tab:=by
 obtain⟨_,_,o,g1,ty,fr,g2⟩:=hg (1,IB) (by simp[IC]);unfold Lib.TabIs World.var?;rw[show Tryz.prog.globalNamed "internal/strconv.uint64pow10" =some 1 by kernel_rfl];simp only[bind_some,g1,g2,Lib.pow10Tab,List.map_map];rfl
theorem aod {w:World} (k:Nat) (os:Array Obj):RowKit.Below w.heap.size w (Sort.grow (w.drewN k) os) where
 os:=rfl
 tape:=rfl
 output:=rfl
 size:=by simp[Sort.grow,World.drewN]
 block:=λb ab=>by
  show(w.heap++os)[b]? =_;rw[Array.getElem?_append_left ab]
theorem aoe (a0 J:Int) (r:aAc) (h:C8 a0 J=some r):aW ai 177 [.int .i64 a0,.int .i64 J] (.str r) []:=by
 unfold C8 at h;split at h
 .rename_i hl;obtain⟨a7,h1,rfl⟩:=hl;cases h;refine aW.strs rfl (enters_of Tryz.R1.f173 (by kernel_rfl) rfl) λw F X S vs pF aR=>?_;obtain⟨v0,v1,rfl⟩:∃v0 v1,vs=[v0,v1]:=by
   match vs,pF with
   |[x,y],_=>exact⟨x,y,rfl⟩
  have g0:v0= .int .i64 a0:=qN (aR.eg 0);have g1:v1= .int .i64 10:=qN (aR.eg 1);subst g0 g1;rw[aob];refine(Any.strconv_FormatInt_10 Tryz.R1 a0 a7 h1 w (aoc (aR.fU.next (Nat.le_refl _) (λ_ _ _=>rfl) λ_ h=>h.elim))).mono ?_;rintro e aJ ⟨rfl,k,os,rfl⟩;exact⟨rfl,aod k os⟩
 .cases h
theorem aof (a0:aAb) (J r:aAc) (h:strings_Join a0 J=some r):aW ai 179 [.slice (a0.map aE),.str J] (.str r) []:=by
 unfold strings_Join at h;split at h
 .rename_i hl;cases h;refine aW.strs rfl (enters_of Tryz.RZ.f156 (by kernel_rfl) rfl) λw F X S vs pF aR=>?_;obtain⟨v0,v1,rfl⟩:∃v0 v1,vs=[v0,v1]:=by
   match vs,pF with
   |[x,y],_=>exact⟨x,y,rfl⟩
  have h1:v1= .string ⟨⟨J⟩⟩:=pz (aR.eg 1);subst h1;rcases ajb aR (u:=0) R3 rfl with⟨rfl,a,c,aB⟩|⟨b,o,cap,aB,ab,au,aq⟩
  .have aB:v0= .slice a 0 c:=aB;subst aB;exact(Any.strings_Join_none Tryz.RZ Tryz.Z5 a c ⟨⟨J⟩⟩ w).mono λe aJ ⟨he,hw⟩=>⟨he,hw▸RowKit.Below.refl _ _⟩
  .have aB:v0= .slice (some ⟨b,o,none⟩) a0.length cap:=aB;subst aB;have aK:(a0.map λx=>(⟨⟨x⟩⟩:ByteArray)).map (·.data.toList)=a0:=by rw[List.map_map];exact List.map_id _
   have:=Any.strings_Join Tryz.RZ Tryz.Z5 b o cap (a0.map λx=>⟨⟨x⟩⟩) ⟨⟨J⟩⟩ w (λj x bE=>by
    rw[getElem?_map]at bE;obtain⟨y,hy,rfl⟩:=map_eq_some_iff.1 bE;exact aq j y hy) ab (by rw[length_map];exact hl.1) (by rw[length_map];exact au) (by rw[aK];exact hl.2)
   rw[aK,length_map]at this;exact this
 .cases h
section
open Go.RowKit
set_option maxHeartbeats 4000000
theorem aog (n:Int) (a7: -9223372036854775808<=n) (h1:n<=9223372036854775807) (w:World) (Lv:Lib.TabIs Tryz.prog w "internal/strconv.uint64pow10" .u64 Lib.pow10Tab):
  Calls Tryz.prog 127 #[.int .i64 n] w λe aJ=>e= .returned (.string ⟨(Lib.itoa n).toArray⟩)/\∃k os,aJ=Sort.grow (w.drewN k) os:=by
 go_enter Tryz.func127,Tryz.ntmps127
 go_wp2_with (go_at_call 177;refine(Any.strconv_FormatInt_10 Tryz.R1 n a7 h1 _ Lv).mono ?_;rintro e aJ ⟨rfl,k,os,rfl⟩)
 go_ret
 exact⟨rfl,k,os,rfl⟩
theorem aoh {P:Program} {w aJ:World} {name:String} {k:IntKind} {zs:aAe} (h:Lib.TabIs P w name k zs) (ab:Below w.heap.size w aJ):Lib.TabIs P aJ name k zs:=by
 unfold Lib.TabIs World.var? at*;cases hg:P.globalNamed name with
 |none=>simp[hg]at h
 |some g=>
  simp only[hg,bind_some]at h⊢;have eA:g<w.heap.size:=by
   rcases Nat.lt_or_ge g w.heap.size with bL|bL
   .exact bL
   .rw[Array.getElem?_eq_none bL]at h;simp at h
  rw[ab.block g eA];exact h
theorem Z8 {w aJ:World} (h:Below w.heap.size w aJ) (k:Nat) (os:Array Obj):Below w.heap.size w (Sort.grow (aJ.drewN k) os) where
 os:=h.os
 tape:=h.tape
 output:=h.output
 size:=Nat.le_trans h.size (by simp[Sort.grow,World.drewN])
 block:=λb ab=>by
  have:=h.block b ab;rw[<-this];show(aJ.heap++os)[b]? =_;rw[Array.getElem?_append_left (Nat.lt_of_lt_of_le ab h.size)]
theorem aoi (s:aAc) (hl:¬(Lib.trimPrefix s [45]).length<=18) (w:World):
  Calls Tryz.prog 171 #[.string ⟨⟨s⟩⟩] w λe aJ=>e= .returned (.tuple #[.int .i64 0,.bool false])/\Below w.heap.size w aJ:=by
 go_enter Tryz.func171,Tryz.ntmps171
 go_wp2_with (go_at_call 205;refine(Any.strings_TrimPrefix Tryz.R0 ⟨⟨s⟩⟩ ⟨#[45]⟩ _).mono ?_;rintro e aJ ⟨rfl,rfl⟩)
 go_ret2
 exact⟨rfl,Below.refl _ _⟩
theorem aoj (s:aAc) (hl:(Lib.trimPrefix s [45]).length<=18) (ae:s.length<=1000) (aw:Lib.parseIntB 64 s=Lib.parseIntB 64 []) (bx:Value) (w:World) (aB:w.cell? ⟨2,0,none⟩=some bx) (aok:bx= .nilIface\/∃MV MW,bx= .iface MV MW):
  Calls Tryz.prog 171 #[.string ⟨⟨s⟩⟩] w λe aJ=>e= .returned (.tuple #[.int .i64 0,.bool false])/\Below w.heap.size w aJ:=by
 go_enter Tryz.func171,Tryz.ntmps171
 go_wp2_with (first|(go_at_call 205;refine(Any.strings_TrimPrefix Tryz.R0 ⟨⟨s⟩⟩ ⟨#[45]⟩ _).mono ?_;rintro e aJ ⟨rfl,rfl⟩)|(go_at_call 206;refine(Any.strconv_ParseInt_10_at64_syntax Tryz.Z6 ⟨⟨s⟩⟩ (Nat.le_trans ae (by decide)) aw bx _ aB aok).mono ?_))
 rintro e FD ⟨N,rfl,-,-,ab⟩
 go_wp2
 go_ret2
 exact⟨rfl,ab⟩
theorem aol (s:aAc) (hl:(Lib.trimPrefix s [45]).length<=18) (ae:s.length<=1000) (v:Int) (aw:Lib.parseIntB 64 s= .ok v) (a7: -9223372036854775808<=v) (h1:v<=9223372036854775807) (w:World) (Lv:Lib.TabIs Tryz.prog w "internal/strconv.uint64pow10" .u64 Lib.pow10Tab):
  Calls Tryz.prog 171 #[.string ⟨⟨s⟩⟩] w λe aJ=>e= .returned (.tuple #[.int .i64 (vq s).1,.bool (vq s).2])/\Below w.heap.size w aJ:=by
 go_enter Tryz.func171,Tryz.ntmps171
 go_wp2_with (first|(go_at_call 205;refine(Any.strings_TrimPrefix Tryz.R0 ⟨⟨s⟩⟩ ⟨#[45]⟩ _).mono ?_;rintro e aJ ⟨rfl,rfl⟩)|(go_at_call 206;refine(Any.strconv_ParseInt_10_at64_ok Tryz.Z6 ⟨⟨s⟩⟩ (Nat.le_trans ae (by decide)) v aw _).mono ?_))
 rintro e FD ⟨rfl,ab⟩;have aom:Lib.TabIs Tryz.prog FD "internal/strconv.uint64pow10" .u64 Lib.pow10Tab:=by
  rcases ab with rfl|⟨t,rfl⟩
  .exact Lv
  .exact aoh Lv (Lib.bytesWorld_below _ _ _)
 have Jy:Below aJ.heap.size aJ FD:=by
  rcases ab with rfl|⟨t,rfl⟩
  .exact Below.refl _ _
  .exact Lib.bytesWorld_below _ _ _
 clear ab
 go_wp2_with (go_at_call 127;refine(aog v a7 h1 _ aom).mono ?_;rintro e aJ ⟨rfl,k,os,rfl⟩)
 all_goals go_ret2
 all_goals (rename_i h)
 .have e:vq s=(0,false):=by
   unfold vq;rw[aw];simp only;rw[if_neg (by intro e;simp[e]at h)]
  rw[e];exact⟨rfl,Z8 Jy _ _⟩
 .have e:vq s=(v,true):=by
   unfold vq;rw[aw];simp only;rw[if_pos (by simpa using h)]
  rw[e];exact⟨rfl,Z8 Jy _ _⟩
theorem aon (s:aAc):(Lib.trimPrefix s [45]).length=(if s.head? =some 45 then s.tail else s).length:=by
 unfold Lib.trimPrefix Lib.hasPrefix;cases s with
 |nil=>rfl
 |cons c r=>
  by_cases h:c=45
  .subst h;rw[if_pos (show(45::r).head? =some 45 from rfl),if_pos (by simp[isPrefixOf])];rfl
  .rw[if_neg (show¬(c::r).head? =some 45 from λe=>h (some.inj e)),if_neg (by simp[isPrefixOf];exact λe=>h e.symm)]
theorem aoo (s:aAc) (w:World) (hg:ub w λ_=>False):
  Calls Tryz.prog 171 #[.string ⟨⟨s⟩⟩] w λe aJ=>e= .returned (.tuple #[.int .i64 (kp s).1,.bool (kp s).2])/\Below w.heap.size w aJ:=by
 have a6:=aon s;by_cases hl:(Lib.trimPrefix s [45]).length<=18
 .have ae:s.length<=1000:=by
   rw[a6]at hl;split at hl
   .rw[length_tail]at hl;omega
   .omega
  obtain⟨h1,af⟩:=aop s (by rw[<-a6];exact hl);rw[<-af];rcases aw:Lib.parseIntB 64 s with v|_|_
  rotate_left
  .have e:vq s=(0,false):=by unfold vq;rw[aw]
   obtain⟨_,_,o,g1,bx,cs,ty,fr,g2,g3,g4⟩:=hg (2,MU) (by simp[IC]);rw[e];refine aoj s hl ae aw bx w ?_ g4;simp only[World.cell?,g1,g2];simpa using g3
  .exact(h1 aw).elim
  .have ab:=Lib.parseIntB_bounds aw;obtain⟨_,_,o,g1,ty,fr,g2⟩:=hg (1,IB) (by simp[IC]);refine aol s hl ae v aw (by have:=ab.1;simp at this;omega) (by have:=ab.2;simp at this;omega) w ?_;unfold Lib.TabIs World.var?;rw[show Tryz.prog.globalNamed "internal/strconv.uint64pow10" =some 1 by kernel_rfl];simp only[bind_some,g1,g2,Lib.pow10Tab,List.map_map];rfl
 .have e:kp s=(0,false):=by
   rw[a6]at hl;unfold kp;split<;>rename_i h
   .rw[if_pos h]at hl;unfold qo;rw[if_neg (λbL=>hl bL.2.1)]
   .rw[if_neg h]at hl;unfold qo;rw[if_neg (λbL=>hl bL.2.1)]
  rw[e];exact aoi s hl w
theorem aoq (a0:aAc) (r:Int×Bool) (h:K0 a0=some r):aW ai 171 [.str a0] (.tuple [.int .i64 r.1,.bool r.2]) []:=by
 obtain rfl:kp a0=r:=some.inj h;refine aW.below (v:=.tuple #[.int .i64 (kp a0).1,.bool (kp a0).2]) rfl (enters_of Tryz.func171 (by kernel_rfl) rfl) rfl
  ⟨_,rfl,rfl,λk d x ao aq=>?_⟩ (λw F=>?_) λw F X S vs pF aR=>?_
 .rcases k with _|_|k
  .simp at ao aq;subst ao aq;exact⟨rfl,λvs=>by simp,rfl⟩
  .simp at ao aq;subst ao aq;exact⟨rfl,λvs=>by simp,rfl⟩
  .simp at ao
 .simp only[cZ,jd];rw[az,br];refine⟨[.int .i64 (kp a0).1],[.bool (kp a0).2],λ_=>False,λ_=>False,rfl,by rw[az],?_,λ_ h=>h,λ_ h=>h,λ_ h=>h.elim⟩;rw[br];exact⟨[.bool (kp a0).2],[],λ_=>False,λ_=>False,rfl,by rw[az],by rw[br],λ_ h=>h,λ_ h=>h,λ_ h=>h.elim⟩
 .obtain⟨v0,rfl⟩:∃v0,vs=[v0]:=by
   match vs,pF with
   |[x],_=>exact⟨x,rfl⟩
  have g0:v0= .string ⟨⟨a0⟩⟩:=pz (aR.eg 0);subst g0;exact aoo a0 w (aR.fU.next (Nat.le_refl _) (λ_ _ _=>rfl) λ_ h=>h.elim)
end
section
open Go.Proofs Go.RowKit Go.Lib Go.Sort
theorem Z9:∀a b,yG a b=Lib.compareBytes a b
 |[],[]=>rfl
 |[],_::_=>rfl
 |_::_,[]=>rfl
 |a::x,b::y=>by simp only[yG,Lib.compareBytes,Z9 x y]
theorem aor (a b:aAc):ob a b<0\/a=b\/ob b a<0:=by
 rcases yK.tx a b with h|h|h
 .exact .inl (of_decide_eq_true h)
 .exact .inr (.inl h)
 .exact .inr (.inr (of_decide_eq_true h))
theorem aos:SWO (ltOf ob) where
 irrefl x:=yK.tz x
 trans x y z h1 af:=yK.qI x y z h1 af
 ntrans x y z h1 af:=by
  have ay:AJ x y=false:=h1;have a_:AJ y z=false:=af;show AJ x z=false;rw[Bool.eq_false_iff];intro b1;rcases yK.tx x y with h|h|h
  .rw[h]at ay;cases ay
  .subst h;rw[b1]at a_;cases a_
  .rw[yK.qI _ _ _ h b1]at a_;cases a_
theorem aot (a b:aAc) (w:World):Calls Tryz.prog 33 #[.string ⟨⟨a⟩⟩,.string ⟨⟨b⟩⟩] w λe aJ=>e= .returned (.int .i64 (ob a b))/\aJ=w:=by
 have aou:=Any.strings_Compare Tryz.an9 ⟨⟨a⟩⟩ ⟨⟨b⟩⟩;have azK:∀args w,(callFunc 59 args).run Tryz.prog w= .ok (.enter 59 args) w:=enters_of Tryz.func59 (by kernel_rfl) rfl;by_cases h1:a=b
 .have aK:(a==b)=true:=by simpa using h1
  rw[show ob a b=0 from by unfold ob;rw[if_pos h1]];clear h1
  go_enter Tryz.func33,Tryz.ntmps33
  go_wp2
  go_ret
  exact⟨rfl,rfl⟩
 .have aK:(a==b)=false:=by simpa using h1
  by_cases af:a=[116,97,117]
  .have aT:(a==[116,97,117])=true:=by simpa using af
   rw[show ob a b= -1 from by unfold ob;rw[if_neg h1,if_pos af]];clear h1 af
   go_enter Tryz.func33,Tryz.ntmps33
   go_wp2
   go_ret
   exact⟨rfl,rfl⟩
  .have aT:(a==[116,97,117])=false:=by simpa using af
   by_cases ay:b=[116,97,117]
   .have aU:(b==[116,97,117])=true:=by simpa using ay
    rw[show ob a b=1 from by unfold ob;rw[if_neg h1,if_neg af,if_pos ay]];clear h1 af ay
    go_enter Tryz.func33,Tryz.ntmps33
    go_wp2
    go_ret
    exact⟨rfl,rfl⟩
   .have aU:(b==[116,97,117])=false:=by simpa using ay
    rw[show ob a b=Lib.compareBytes a b from by unfold ob;rw[if_neg h1,if_neg af,if_neg ay,Z9]];clear h1 af ay
    go_enter Tryz.func33,Tryz.ntmps33
    go_wp2_with (go_at_fn 59;refine(aou _).mono ?_;rintro e aJ ⟨rfl,rfl⟩)
    go_ret
    exact⟨rfl,rfl⟩
theorem aov (a0 r:aAb) (h:G_ a0=some r):aW ai 32 [.ag 1 (a0.map aE),.fn 33 []] (.tuple []) [.ag 1 (r.map aE),.hole]:=by
 unfold G_ at h;split at h
 .rename_i hl;cases h;refine aW.aji (C:=ai) (f:=32) (g:=33) R3 (λargs w=>Tryz.R2.f6.enters rfl args w) a0 _ (length_mergeSort a0) (λa w=>AnyF.slices_SortFunc_none {Tryz.R2 with} a 0 _ w) λw b cap hH ab=>?_;have:=Any.slices_SortFunc_total Tryz.R2 (λx:List UInt8=>Value.string ⟨⟨x⟩⟩) (λ_=>rfl) ob aos 33 #[] b 0 cap a0.toArray w (enters_of Tryz.func33 (by kernel_rfl) rfl)
   (CmpReads.lays λm os azL _ x y=>(aot x y _).mono λ_ _ ⟨he,hw⟩=>⟨he,0,by rw[hw];rfl⟩) hH ab (by simpa using hl)
   (λx y h1 af=>by
    simp only[ltOf,decide_eq_false_iff_not]at h1 af;rcases aor x y with h|h|h
    .exact absurd h h1
    .exact h
    .exact absurd h af)
  refine this.mono ?_;rintro ex aJ ⟨rfl,n,os,hw⟩;exact⟨rfl,n,os,hw⟩
 .cases h
end
end Go.Proofs.YtafceioodemeeaaGreatDoor
