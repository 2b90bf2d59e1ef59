/- Parts of the proof. -/
import Derived.Test.YtgfkglhelfkpoaaGreatRRE
import Derived.Test.YtgfkglhelfkpoaaGreatRRF
set_option maxRecDepth 100000
set_option maxHeartbeats 8000000
open Go.Proofs.Tryz
open Go.Value renaming int→I,slice→V
open Go.IntKind renaming i64→J
open Option renaming some→M,none→U
open Go.Ending renaming returned→If
open Go.Obj renaming cells→Is
open Go renaming World→Iv,Calls→I0,Value→I1,maxLen→I2
open Go.RowKit renaming Below→Ix
open Nat renaming le_refl→Jn,zero_add→Mu
open Go.RowKit.Below renaming refl→Jx
open Int renaming toNat_natCast→Mz
namespace Go.Proofs.YtgfkglhelfkpoaaGreat
section
open Go.RowKit Plain
theorem Tryz.infoBl:(Tryz.prog.info? 4).map (λi=>(i.zero,i.size,i.bytes))=M (M (.bool false),1,1):=aL
def zsL:Nat->List I1
 | 0=>[]
 | n+1=>zsL n++[I J 0,I J 0,I J 0,I J 0,V U 0 0]
theorem Ce:∀ n,(zsL n).length=n*5
 | 0=>rfl
 | n+1=>by rw[zsL,List.length_append,Ce n];simp;omega
theorem Qt:∀ {n j k:Nat},j<n->k<5->(zsL n)[j*5+k]? = ([I J 0,I J 0,I J 0,I J 0,V U 0 0]:List I1)[k]?
 | 0,_,_,h,_=>ah
 | n+1,j,k,h,hk=>by
  rw[zsL]
  by_cases e:j=n
  ·subst e
   rw[List.getElem?_append_right (by rw[Ce];omega),Ce,Nat.add_sub_cancel_left]
  ·rw[List.getElem?_append_left (by rw[Ce];omega)]
   exact Qt ah hk
structure Mk (w W0 wr:Iv) (i gb gw cb cw:Nat):Prop where
 hb:wr.ownsRow (w.heap.size+1) 4 1 (V (M ⟨gb,0,U⟩) i cb) i (List.replicate i (.bool false))
 he:wr.ownsRow (w.heap.size+1) 33 5 (V (M ⟨gw,0,U⟩) i cw) i (zsL i)
 below:Ix (w.heap.size+1) W0 wr
variable{w:Iv}{n:Nat}
theorem lQ{base e s g c:Nat}{xs:List I1}(h:w.ownsRow base e s (V (M ⟨g,0,U⟩) n c) n xs):base<=g/\Typed w g e/\n<=c/\c<=I2:=by
 rcases h.2 with ⟨h',_⟩ | ⟨g',bB,cur,h',hb,hg,hc,hm,_⟩
 ·simp at h'
 ·simp only[Value.slice.injEq,Option.some.injEq,Addr.mk.injEq,and_true,true_and] at h'
  obtain⟨rfl,rfl⟩:=h';exact⟨hb,⟨cur,hg⟩,hc,hm⟩
variable{W0 wr:Iv}{gb gw cb cw:Nat}
theorem Mk.ne{i:Nat}(h:Mk w W0 wr i gb gw cb cw):gb≠gw:=(lQ h.hb).2.1.ne (lQ h.he).2.1 bM
theorem Mk.sub{B:Nat}(h:Mk w W0 wr n gb gw cb cw)(hB:B<=w.heap.size):sJ wr B gb gw (h_ (n:Int)):=by
 have h1:=lQ h.hb;have h2:=lQ h.he;have hl:(h_ (n:Int)).length=n:=by simp[h_]
 have hd:∀ i,(h_ (n:Int)).getD i U=U:=λi=>by
  unfold h_;rw[List.getD_eq_getElem?_getD,List.getElem?_replicate];split<;>rfl
 have hg:∀ i,(h_ (n:Int)).gt i=jK:=λi=>by show ((h_ (n:Int)).getD i U).getD jK=jK;rw[hd];rfl
 refine⟨λi hi=>?_,World.ownsRow.frozenAt h.hb,λi hi=>?_,World.ownsRow.frozenAt h.he,h1.2.1.lt,h2.2.1.lt,ah,ah,h.ne⟩
 ·rw[hl] at hi
  rw[World.ownsRow.cellAt h.hb i ah,hd,List.getElem?_replicate,if_pos hi];rfl
 ·rw[hl] at hi
  rw[hg];have hc:∀ k,k<5->wr.cell? ⟨gw,i*5+k,U⟩=([I J 0,I J 0,I J 0,I J 0,V U 0 0]:List I1)[k]?:=λk hk=>(World.ownsRow.cellAt h.he _ ah).trans (Qt hi hk)
  exact⟨U,0,hc 0 ah,hc 1 ah,hc 2 ah,hc 3 ah,hc 4 ah,⟨0,0,λh=>absurd h (by simp[jK,Es.len]),trivial⟩,by simp[jK,Es.len],by unfold I2;omega⟩
theorem Hw(v:Int)(l r x:Nd)(b o b2 o2 B:Nat)(w:Iv)(hE:pE w B v l r b o)(hX:dF w B x.k x.n x.p x.c x.ks b2 o2)(hB:B<=w.heap.size)(dh:eF v l r=true)(hz:x.size<=999999) :
  I0 Tryz.prog 145 #[ptr b o,ptr b2 o2] w (fO (jY v l r x).1 (jY v l r x).2 w):=by
 obtain⟨v0,v3,hsl,yU⟩:=jB dh;obtain⟨n,rfl⟩:∃ n:Nat,v=(n:Int):=Int.eq_ofNat_of_zero_le v0;obtain⟨l1,l2,l3,l4,l5⟩:=cZ hsl;obtain⟨r1,r2,r3,r4,r5⟩:=cZ yU;have hlen:(h_ (n:Int)).length=n:=by simp[h_]
 obtain⟨i0,hi,hz0,hz1,hz2⟩:=info_parts Tryz.infoE;obtain⟨i1,hj,hy0,hy1,f_⟩:=info_parts Tryz.infoBl;obtain⟨W0,aZ⟩:=aD (w.alloc (Is #[I J 0,I J 0,I J 0,I J 0,V U 0 0] 33))
 have hb0:Ix w.heap.size w W0:=by rw[aZ];go_grown
 have hs0:W0.heap.size=w.heap.size+1:=by rw[aZ];simp
 have hq0:au W0 w.heap.size 33 [I J 0,I J 0,I J 0,I J 0,V U 0 0]:=by rw[aZ];exact au.new w 33 _
 obtain⟨W1,kK⟩:=aD (W0.alloc (Is #[] 4))
 obtain⟨W2,hW2⟩:=aD (W1.alloc (Is #[] 33))
 have s1:W1.heap.size=w.heap.size+2:=by rw[kK];simp[hs0]
 have hST:Mk w W0 W2 0 (w.heap.size+1) (w.heap.size+2) 0 0:=by
  have hb1:Ix W0.heap.size W0 W1:=by rw[kK];go_grown
  have hb2:Ix W1.heap.size W1 W2:=by rw[hW2];go_grown
  refine⟨?_, ?_,by rw[<-hs0];exact hb1.trans (hb2.mono hb1.size)⟩
  ·have h:W1.ownsRow (w.heap.size+1) 4 1 (V (M ⟨w.heap.size+1,0,U⟩) 0 0) 0 []:=by
    rw[kK,<-hs0];exact World.ownsRow_lit W0 #[] 0 (Jn _) (by unfold I2;omega) (by rfl)
   exact iX h (λg hg=>hb2.block g (by have:=World.ownsRow.lt h g hg;omega))
  ·rw[hW2,<-s1]
   exact World.ownsRow_lit W1 #[] 0 ah (by unfold I2;omega) (by rfl)
 have hEv:=aB hE.vars hb0;have HE:=aj (hE.below (hb0.mono hB));have HX:=aj (dF.below hX (hb0.mono hB));have HST:=aj hST;have HB0:=aj hb0;have DY:=aj hq0;have dI:=aj aZ;have HW2:ak ((w.alloc (Is #[I J 0,I J 0,I J 0,I J 0,V U 0 0] 33)).alloc (Is #[] 4)=W1/\W1.alloc (Is #[] 33)=W2/\W1.heap.size=w.heap.size+2):=⟨by rw[kK,aZ],hW2.symm,s1⟩
 have gQ:=aj hs0;have HSL:ak (l.ks.size<=39/\Lg n l=true/\l.size<=40):=⟨l1,by have:=H6 hsl;rwa [Mz] at this,by unfold Nd.size;omega⟩
 have Ed:ak (r.ks.size<=39/\r.plain=true/\formed [] 0 (n:Int) r=true/\Lg n r=true):=⟨r1,r2,r3,by have:=H6 yU;rwa [Mz] at this⟩
 have HZ:=aj hz;obtain⟨rv,GK⟩:∃ rv,rv=jY (n:Int) l r x:=⟨_,rfl⟩
 rw[<-GK];have m_:=aj GK;have lD:=hE.left.1;have JN:n<=3:=ah;clear hE hX dh hsl yU l1 l2 l3 l4 l5 r1 r2 r3 r4 r5 hz hb0 hs0 hq0 aZ kK hW2 s1 hST GK v0 v3;go_enter func145,ntmps145;go_wp2_with fail;rw[HW2.o.1,HW2.o.2.1]
 go_loopw [6,7,8] (λs6 s7 s8 wr=>∃ (i gb gw cb cw:Nat),s6=V (M ⟨gb,0,U⟩) i cb/\s7=V (M ⟨gw,0,U⟩) i cw/\s8=I J (i:Int)/\i<=n/\ak (Mk w W0 wr i gb gw cb cw)) (λ_ _ s8 _=>n - (intOf s8).toNat)
 case atStart=>exact⟨0,w.heap.size+1,w.heap.size+2,0,0,rfl,rfl,by first | rfl | go_num,ah,HST.o⟩
 case round=>
  obtain⟨i,gb,gw,cb,cw,rfl,rfl,rfl,hin,HR⟩:=hrel;clear HST HW2;have hev:wr.cell? ⟨b,o,U⟩=M (I J (n:Int)):=(HR.o.below.cell (p:=⟨b,o,U⟩) (by show b<w.heap.size+1;omega)).trans hEv
  by_cases hlt:i<n
  ·have hil:(i:Int)<(n:Int):=ah
   go_wp2_with (at_builtin;refine wpList_append_own _ rfl _ _ 255 rfl (w.heap.size+1) 4 i1 (.bool false) 1 1 underlying255 hj hy0 hy1 f_ rfl bM _ i _ rfl (HR.o.hb.alloc _) ⟨wr.heap.size,0,U⟩ 1 1 [.bool false] rfl rfl ?ca1 ?ca2 ?ca3 ?ca4 ?ca5 ?_)
   try (case ca1=>exact cell_one_new _ _ _)
   try (case ca2=>first | rfl | (intro u hu;simp at hu;subst hu;rfl))
   case ca3=>unfold I2;omega
   case ca4=>omega
   try (case ca5=>have:=(lQ HR.o.hb).1;have:=(lQ HR.o.hb).2.1.lt;simp;omega)
   intro v2 w2 hown2 hg2 _;obtain⟨gb2,cb2,hv2,ams,amt⟩:=World.ownsRow.form hown2 ah;subst hv2;have fU:Ix wr.heap.size wr (wr.alloc (Is #[.bool false] 4)):=aV;have ail:=(lQ HR.o.he).2.1.lt;have he2:w2.ownsRow (w.heap.size+1) 33 5 (V (M ⟨gw,0,U⟩) i cw) i (zsL i):=iX HR.o.he (λg hg=>by
    have hg:gw=g:=by injection hg
    subst hg;exact (hg2.block gw (by have:=fU.size;omega) (λe=>HR.o.ne (by injection e with e;exact e.symm))).trans (fU.block gw ail))
   have hb2:Ix (w.heap.size+1) W0 w2:=(HR.o.below.trans (fU.mono (by have:=HR.o.below.size;have:=gQ.o;omega))).grown hg2 (by have:=HR.o.below.size;have:=gQ.o;have:=fU.size;omega) (λq hq=>by
    have hq:gb=q:=by injection hq
    subst hq;exact (lQ HR.o.hb).1)
   have Pg:=aj hown2;have HOE:=aj he2;have HB2:=aj hb2;have hsz2:w.heap.size+1<=w2.heap.size:=by have:=hb2.size;have:=gQ.o;omega
   clear hown2 hg2 fU ail he2 hb2 HR;go_wp2_with (at_builtin;refine wpList_append_own _ rfl _ _ 31 rfl (w.heap.size+1) 33 i0 (exV 0 0 0 0 U 0 0) 5 56 underlying31 hi hz0 hz1 hz2 rfl bM _ i _ rfl (HOE.o.alloc _) ⟨w2.heap.size,0,U⟩ 1 1 [I J 0,I J 0,I J 0,I J 0,V U 0 0] rfl rfl ?cb1 ?cb2 ?cb3 ?cb4 ?cb5 ?_)
   try (case cb1=>intro j z hz;rw[addr_add,Mu];exact ((au.new w2 33 [I J 0,I J 0,I J 0,I J 0,V U 0 0]).cell j).trans hz)
   try (case cb2=>intro u hu;simp only[List.mem_cons,List.not_mem_nil,or_false] at hu;rcases hu with rfl | rfl | rfl | rfl | rfl<;>rfl)
   case cb3=>unfold I2;omega
   case cb4=>omega
   try (case cb5=>simp;omega)
   intro v3 w3 Y4 hg3 _;obtain⟨gw3,cw3,hv3,amw,amu⟩:=World.ownsRow.form Y4 ah;subst hv3;have fU:Ix w2.heap.size w2 (w2.alloc (Is #[I J 0,I J 0,I J 0,I J 0,V U 0 0] 33)):=aV;have htb:=(lQ Pg.o).2.1;have hne:gb2≠gw:=htb.ne (lQ HOE.o).2.1 bM;have hb3:w3.ownsRow (w.heap.size+1) 4 1 (V (M ⟨gb2,0,U⟩) (i+1) cb2) (i+1) (List.replicate (i+1) (.bool false)):=by
    refine iX (w:=w2) (by have:=Pg.o;rwa [show List.replicate i (Value.bool false)++[.bool false]=List.replicate (i+1) (.bool false) by rw[List.replicate_succ']] at this) (λg hg=>?_);have hg:gb2=g:=by injection hg
    subst hg;exact (hg3.block gb2 (by have:=fU.size;have:=htb.lt;omega) (λe=>hne (by injection e))).trans (fU.block gb2 htb.lt)
   have ahK:Ix (w.heap.size+1) W0 w3:=(HB2.o.trans (fU.mono hsz2)).grown hg3 (by have:=fU.size;omega) (λq hq=>by
    have hq:gw=q:=by injection hq
    subst hq;exact (lQ HOE.o).1)
   have QE:ak (Mk w W0 w3 (i+1) gb2 gw3 cb2 cw3):=⟨hb3,Y4,ahK⟩
   clear Y4 hg3 fU hne hb3 ahK htb Pg HOE HB2;go_wp2
   go_roundw
   case rel=>exact⟨i+1,gb2,gw3,cb2,cw3,rfl,rfl,bE,ah,QE⟩
   case measure=>simp[intOf];omega
  ·obtain rfl:i=n:=ah
   have hil:¬ (i:Int)<(i:Int):=ah;have hbr:Ix B W0 wr:=HR.o.below.mono ah;have amQ:w.heap.size+1<=wr.heap.size:=by have:=HR.o.below.size;have:=gQ.o;omega
   have HEr:=aj (HE.o.below hbr);have HXr:=aj (dF.below HX.o hbr);have QH:=aj (HR.o.sub hB);have hcb:=lQ HR.o.hb;have hcw:=lQ HR.o.he;have HZr:ak (au wr w.heap.size 33 [I J 0,I J 0,I J 0,I J 0,V U 0 0]):=(HR.o.below.block _ ah).trans DY.o;have HWr:ak (Ix w.heap.size w wr):=HB0.o.trans (HR.o.below.mono ah);have HF:=Yw (l.ks.size+1) l.ks ah l.k l.n l.p l.c b (o+1) x.k x.n x.p x.c x.ks b2 o2 B gb gw cb cw (h_ (i:Int)) wr HEr.o.left HXr.o ah (by have:=HSL.o;omega) (by have:=HZ.o;unfold Nd.size at this;omega) QH.o (by rw[hlen];exact hcb.2.2.1) (by rw[hlen];exact hcw.2.2.1) hcb.2.2.2 hcw.2.2.2 (by rw[hlen];exact HSL.o.2.1) (uV _ _) (by rw[hlen];omega)
   rw[hlen] at HF;have HF:=aj HF;have HCW:ak (i<=cw/\cw<=I2):=⟨hcw.2.2.1,hcw.2.2.2⟩
   have akS:=hcb.1;have hgw1:=hcw.1;clear hcb hcw hbr HR HE HX DY HB0 hEv;cases ho:jP l x (h_ (i:Int)) with
   | none=>
    have ho':jP ⟨l.k,l.n,l.p,l.c,l.ks⟩ ⟨x.k,x.n,x.p,x.c,x.ks⟩ (h_ (i:Int))=U:=ho;rw[ho'] at HF;have HV:ak (rv=(jK,9)):=by show _=_;rw[m_.o];exact FI ho
    clear ho ho' m_;go_wp2_with fail;refine HF.o.mono ?_;rintro e w1 ⟨rfl,ho1,_⟩;have BP:w.heap.size+1<=gb/\w.heap.size+1<=gw:=⟨akS,hgw1⟩
    have hbw:Ix w.heap.size w w1:=HWr.o.trans (ho1.below ah (λq hq=>ah));have hZ:au w1 w.heap.size 33 [I J 0,I J 0,I J 0,I J 0,V U 0 0]:=(ho1.block _ ah (by show ¬ (w.heap.size=gb∨w.heap.size=gw);omega)).trans HZr.o;have j0:w1.cell? ⟨w.heap.size,0,U⟩=M (I J 0):=ay hZ
    have g0:w1.frozen? ⟨w.heap.size,0,U⟩=false:=hZ.frozen _;have j1:w1.cell? ⟨w.heap.size,1,U⟩=M (I J 0):=ay hZ
    have g1:w1.frozen? ⟨w.heap.size,1,U⟩=false:=hZ.frozen _;have j2:w1.cell? ⟨w.heap.size,2,U⟩=M (I J 0):=ay hZ
    have g2:w1.frozen? ⟨w.heap.size,2,U⟩=false:=hZ.frozen _;have j3:w1.cell? ⟨w.heap.size,3,U⟩=M (I J 0):=ay hZ
    have g3:w1.frozen? ⟨w.heap.size,3,U⟩=false:=hZ.frozen _;have j4:w1.cell? ⟨w.heap.size,4,U⟩=M (V U 0 0):=ay hZ
    have g4:w1.frozen? ⟨w.heap.size,4,U⟩=false:=hZ.frozen _;have d0:=hZ;have d1:=d0.aJ 0 (I J 0);have d2:=d1.aJ 1 (I J 0);have d3:=d2.aJ 2 (I J 0);have d4:=d3.aJ 3 (I J 0);have d5:=d4.aJ 4 (V U 0 0);have x0:=d1.cell 0;have x1:=d2.cell 1;have x2:=d3.cell 2;have x3:=d4.cell 3;have x4:=d5.cell 4;simp only[eY] at x0 x1 x2 x3 x4
    clear d0 d1 d2 d3 d4 d5;have HP:ak (fO jK 9 w (If (.tuple #[exV 0 0 0 0 U 0 0,I J 9])) (cK w1 (w.heap.size) 0 0 0 0 0 (V U 0 0))):=
     ⟨bD _ _ _ _ _ hbw ah,U,0,rfl,Jn _,Nat.zero_le _,(b_.nil U _ (by rw[bN];exact Below.size hbw)).reg⟩
    clear hZ hbw ho1 BP;go_wp2;refine bodyPost_ret (v:=.tuple #[exV 0 0 0 0 U 0 0,I J 9]) (by simp[results,results145,go_sem,x0,x1,x2,x3,x4]) rfl ?_;rw[HV.o];exact HP.o
   | some σ=>
    have ho':jP ⟨l.k,l.n,l.p,l.c,l.ks⟩ ⟨x.k,x.n,x.p,x.c,x.ks⟩ (h_ (i:Int))=M σ:=ho;rw[ho'] at HF;have Pk:ak (σ.length=i/\σ.bd 1000000):=⟨(qo ho).1.trans hlen,xY ho (uV _ _) (by have:=HZ.o;omega)⟩
    have HVL:ak (lost r σ=true->rv=(jK,4)):=λh=>by rw[m_.o];exact FH ho h
    have HVO:ak (lost r σ=false->rv=(iQ σ r,0)):=λh=>by rw[m_.o];exact Qm ho h
    clear ho ho' m_ HZ;go_wp2_with fail;refine HF.o.mono ?_;rintro e w1 ⟨rfl,ho1,wW⟩;have hS1:=wW σ rfl;have hB1:Ix B wr w1:=ho1.below ah (λq hq=>ah);have gY:=aj (HEr.o.below hB1);have HZ1:ak (au w1 w.heap.size 33 [I J 0,I J 0,I J 0,I J 0,V U 0 0]):=(ho1.block _ ah (by show ¬ (w.heap.size=gb∨w.heap.size=gw);omega)).trans HZr.o;have HW1:ak (Ix w.heap.size w w1):=HWr.o.trans (ho1.below ah (λq hq=>ah))
    have hs1:w.heap.size+1<=w1.heap.size:=by have:=ho1.size;omega
    have eu:=aj hS1;have hv1:w1.cell? ⟨b,o,U⟩=M (I J (i:Int)):=gY.o.vars;clear wW ho1 hS1 hB1 HEr HXr QH HZr HWr HF hev;have hdw:Ix w1.heap.size w1 w1.drew:=(Jx _ _).drew;have HOC:=aj (tK r b (o+6) B (i:Int) w1.drew (gY.o.right.below (hdw.mono ah)) (by show B<=w1.heap.size;omega) Ed.o.1 Ed.o.2.1 Ed.o.2.2.1 ah ah);go_wp2_with fail;go_still_tail 7,aL
    change wpList _ _ _ _ _ w1.drew;go_wp2_with fail;refine HOC.o.mono ?_;rintro e w2 ⟨A,cpo,rfl,hints,hb2⟩;have Rv:Ix w1.heap.size w1 w2:=hdw.trans hb2;have Qz:=aj hints;have HS2:=aj (eu.o.keep Rv ah);have dz:=aj (gY.o.below (Rv.mono ah));have HZ2:ak (au w2 w.heap.size 33 [I J 0,I J 0,I J 0,I J 0,V U 0 0]):=HZ1.o.next Rv;have HW2:ak (Ix w.heap.size w w2):=HW1.o.trans (Rv.mono ah)
    have hs2:w.heap.size+1<=w2.heap.size:=by have:=Rv.size;omega
    have IQ:ak (r.iL.length<=12):=yJ Ed.o.2.1 Ed.o.2.2.1 ah ah;clear hints hb2 Rv hdw eu gY HZ1 HW1 hs1 hv1 HOC;go_wp2_with fail
    go_loopg [10] (i+1) (λkx Hy wr=>∃ (j:Nat),Hy=I J (j:Int)/\j<=i/\i - j<kx/\ak (∀ q,q<j->fM r σ q=false)/\w2=wr)
    case atStart=>exact⟨0,by first | rfl | go_num,ah,ah,(λq hq=>ah),rfl⟩
    case round=>
     obtain⟨j,rfl,hji,hkx,HL,rfl⟩:=hrel
     by_cases hlt2:j<i
     ·have hjz:(j:Int)<(i:Int):=ah
      have hcb:=HS2.o.b j (by rw[Pk.o.1];exact hlt2);have hel:=HS2.o.el ah (i:=j) (by rw[Pk.o.1];exact hlt2);have LD:=aj (JH A cpo r.iL (j:Int) w2 Qz.o (by have:=IQ.o;omega));cases hsg:σ.getD j U with
      | none=>
       rw[hsg] at hcb;have afj:w2.cell? ⟨gb,j,U⟩=M (.bool false):=hcb;have Vp:ak (fM r σ j=false):=by show _=_;unfold fM;rw[hsg]
       have HL2:ak (∀ q,q<j+1->fM r σ q=false):=λq hq=>by
        by_cases e:q=j
        ·rw[e];exact Vp.o
        ·exact HL.o q ah
       clear hcb hel hsg LD HL;go_wp2
       go_roundg (i - (j+1)+1)
       case measure=>omega
       case rel=>exact⟨j+1,by first | rfl | go_num,ah,ah,HL2,rfl⟩
      | some y=>
       rw[hsg] at hcb;have afj:w2.cell? ⟨gb,j,U⟩=M (.bool true):=hcb;rw[Gt hsg] at hel;have ain:y.size<=1000000:=by have:=aeg Pk.o.2 ah j;rwa [Gt hsg] at this
       have HTO:=aj (OT (y.ks.size+1) y.ks ah y.k y.n y.p y.c gw (j*5) w2.heap.size w2 hel (by unfold Nd.size at ain;omega));have hLA:fM r σ j=(!r.iL.contains (j:Int)&&!Nd.total ⟨y.k,y.n,y.p,y.c,y.ks⟩):=by unfold fM;rw[hsg]
       obtain⟨bc,hbc⟩:∃ bc,bc=r.iL.contains (j:Int):=⟨_,rfl⟩
       obtain⟨bt,Iu⟩:=aD (Nd.total ⟨y.k,y.n,y.p,y.c,y.ks⟩)
       rw[<-hbc] at LD hLA;rw[<-Iu] at HTO hLA;have Vq:=aj hLA;have oJ:ak (fM r σ j=false->∀ q,q<j+1->fM r σ q=false):=λh0 q hq=>by
        by_cases e:q=j
        ·rw[e];exact h0
        ·exact HL.o q ah
       clear hbc Iu hLA hcb hel hsg ain HL;cases bc with
       | true=>
        have HL2:=aj (oJ.o Vq.o);go_wp2_with fail;refine LD.o.mono ?_;rintro e w6 ⟨rfl,rfl⟩;go_wp2
        go_roundg (i - (j+1)+1)
        case measure=>omega
        case rel=>exact⟨j+1,by first | rfl | go_num,ah,ah,HL2,rfl⟩
       | false=>
        cases bt with
        | true=>
         have HL2:=aj (oJ.o Vq.o);go_wp2_with fail;refine LD.o.mono ?_;rintro e w6 ⟨rfl,rfl⟩;go_wp2_with fail;refine HTO.o.mono ?_;rintro e w7 ⟨rfl,rfl⟩;go_wp2
         go_roundg (i - (j+1)+1)
         case measure=>omega
         case rel=>exact⟨j+1,by first | rfl | go_num,ah,ah,HL2,rfl⟩
        | false=>
         have Vp:ak (fM r σ j=true):=Vq.o;have HV:ak (rv=(jK,4)):=HVL.o (Fp Vp.o);go_wp2_with fail;refine LD.o.mono ?_;rintro e w6 ⟨rfl,rfl⟩;go_wp2_with fail;refine HTO.o.mono ?_;rintro e w7 ⟨rfl,rfl⟩;have hZ:=HZ2.o;have hbw:=HW2.o;have j0:w2.cell? ⟨w.heap.size,0,U⟩=M (I J 0):=ay hZ
         have g0:w2.frozen? ⟨w.heap.size,0,U⟩=false:=hZ.frozen _;have j1:w2.cell? ⟨w.heap.size,1,U⟩=M (I J 0):=ay hZ
         have g1:w2.frozen? ⟨w.heap.size,1,U⟩=false:=hZ.frozen _;have j2:w2.cell? ⟨w.heap.size,2,U⟩=M (I J 0):=ay hZ
         have g2:w2.frozen? ⟨w.heap.size,2,U⟩=false:=hZ.frozen _;have j3:w2.cell? ⟨w.heap.size,3,U⟩=M (I J 0):=ay hZ
         have g3:w2.frozen? ⟨w.heap.size,3,U⟩=false:=hZ.frozen _;have j4:w2.cell? ⟨w.heap.size,4,U⟩=M (V U 0 0):=ay hZ
         have g4:w2.frozen? ⟨w.heap.size,4,U⟩=false:=hZ.frozen _;have d0:=hZ;have d1:=d0.aJ 0 (I J 0);have d2:=d1.aJ 1 (I J 0);have d3:=d2.aJ 2 (I J 0);have d4:=d3.aJ 3 (I J 0);have d5:=d4.aJ 4 (V U 0 0);have x0:=d1.cell 0;have x1:=d2.cell 1;have x2:=d3.cell 2;have x3:=d4.cell 3;have x4:=d5.cell 4;simp only[eY] at x0 x1 x2 x3 x4
         clear d0 d1 d2 d3 d4 d5;have HP:ak (fO jK 4 w (If (.tuple #[exV 0 0 0 0 U 0 0,I J 4])) (cK w2 (w.heap.size) 0 0 0 0 0 (V U 0 0))):=
          ⟨bD _ _ _ _ _ hbw ah,U,0,rfl,Jn _,Nat.zero_le _,(b_.nil U _ (by rw[bN];exact Below.size hbw)).reg⟩
         clear hZ hbw;go_wp2;refine bodyPost_ret (v:=.tuple #[exV 0 0 0 0 U 0 0,I J 4]) (by simp[results,results145,go_sem,x0,x1,x2,x3,x4]) rfl ?_;rw[HV.o];exact HP.o
     ·obtain rfl:j=i:=ah
      have hjz:¬ (j:Int)<(j:Int):=ah;have HV:ak (rv=(iQ σ r,0)):=HVO.o (Dh λq=>by
       by_cases h:q<j
       ·exact HL.o q h
       ·exact Fj (by rw[Pk.o.1];omega))
      have hfi:=Rb (r.ks.size+1) r.ks ah r.k r.n r.p r.c b (o+6) B gb gw cw σ w2 dz.o.right ah (by have:=Ed.o;omega) HS2.o (by rw[Pk.o.1];exact HCW.o.1) HCW.o.2 (by rw[Pk.o.1];exact Ed.o.2.2.2) Pk.o.2 (by rw[Pk.o.1];omega);rw[Pk.o.1] at hfi;have HFI:=aj hfi;obtain⟨y,hy⟩:=aD (iQ σ r)
      have aeJ:ak (I0 Tryz.prog 216 #[ptr b (o+6),V (M ⟨gw,0,U⟩) j cw] w2 (jH y w2)):=by rw[hy];exact HFI.o
      rw[<-hy] at HV;obtain⟨yk,yn,yp,yc,ys⟩:=y;clear hy HFI hfi HL HVL HVO;go_wp2_with fail;refine aeJ.o.mono ?_;rintro e w5 ⟨hb5,K5,c5,rfl,hc5,hm5,hT5⟩;simp only at hc5 hT5;have hZ:au w5 w.heap.size 33 [I J 0,I J 0,I J 0,I J 0,V U 0 0]:=HZ2.o.next hb5;have hbw:Ix w.heap.size w w5:=HW2.o.trans (hb5.mono HW2.o.size);have j0:w5.cell? ⟨w.heap.size,0,U⟩=M (I J 0):=ay hZ
      have g0:w5.frozen? ⟨w.heap.size,0,U⟩=false:=hZ.frozen _;have j1:w5.cell? ⟨w.heap.size,1,U⟩=M (I J 0):=ay hZ
      have g1:w5.frozen? ⟨w.heap.size,1,U⟩=false:=hZ.frozen _;have j2:w5.cell? ⟨w.heap.size,2,U⟩=M (I J 0):=ay hZ
      have g2:w5.frozen? ⟨w.heap.size,2,U⟩=false:=hZ.frozen _;have j3:w5.cell? ⟨w.heap.size,3,U⟩=M (I J 0):=ay hZ
      have g3:w5.frozen? ⟨w.heap.size,3,U⟩=false:=hZ.frozen _;have j4:w5.cell? ⟨w.heap.size,4,U⟩=M (V U 0 0):=ay hZ
      have g4:w5.frozen? ⟨w.heap.size,4,U⟩=false:=hZ.frozen _;have d0:=hZ;have d1:=d0.aJ 0 (I J yk);have d2:=d1.aJ 1 (I J yn);have d3:=d2.aJ 2 (I J yp);have d4:=d3.aJ 3 (I J yc);have d5:=d4.aJ 4 (V K5 ys.len c5);have x0:=d1.cell 0;have x1:=d2.cell 1;have x2:=d3.cell 2;have x3:=d4.cell 3;have x4:=d5.cell 4;simp only[eY] at x0 x1 x2 x3 x4
      clear d0 d1 d2 d3 d4 d5;have HP:ak (fO ⟨yk,yn,yp,yc,ys⟩ 0 w (If (.tuple #[exV yk yn yp yc K5 ys.len c5,I J 0])) (cK w5 w.heap.size 0 yk yn yp yc (V K5 ys.len c5))):=by
       have ht:b_ w.heap.size (cK w5 w.heap.size 0 yk yn yp yc (V K5 ys.len c5)).heap.size ys K5 (cK w5 w.heap.size 0 yk yn yp yc (V K5 ys.len c5)):=by
        rw[bN];exact (hT5.keep (λq q1 q2=>dN _ _ _ _ _ ah)).wide ah (Jn _)
       exact⟨bD _ _ _ _ _ hbw ah,K5,c5,rfl,hc5,hm5,ht.reg⟩
      clear hZ hbw hb5 hT5;go_wp2;refine bodyPost_ret (v:=.tuple #[exV yk yn yp yc K5 ys.len c5,I J 0]) (by simp[results,results145,go_sem,x0,x1,x2,x3,x4]) rfl ?_;rw[HV.o];exact HP.o
end
end Go.Proofs.YtgfkglhelfkpoaaGreat
