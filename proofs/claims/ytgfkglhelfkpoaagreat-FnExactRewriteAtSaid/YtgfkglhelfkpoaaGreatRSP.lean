/- Parts of the proof. -/
import Derived.Test.YtgfkglhelfkpoaaGreatRSO
set_option maxRecDepth 100000
set_option maxHeartbeats 4000000
open Go.Proofs.Tryz
open Go.Value renaming int→I,slice→V
open Go.IntKind renaming i64→J
open Option renaming some→M,none→U
open Go.Ending renaming returned→If
open Go.Obj renaming cells→Is
open Go renaming World→Iv,Calls→I0,Value→I1,maxLen→I2,Addr→I3
open Go.RowKit renaming Below→Ix
open Go.RowKit.Below renaming refl→Jx
open Bool renaming and_eq_true→Mb
open Nat renaming le_trans→Mp
open List renaming length_map→My
namespace Go.Proofs.YtgfkglhelfkpoaaGreat
section
open Go.RowKit Plain
variable{x:Nd}{v:Int}
theorem Zv(hp:x.plain=true)(hf:formed [] 0 v x=true):∀ y∈x.iL,0<=y/\y<v:=by
 unfold Nd.plain at hp;simp only[Mb] at hp;unfold formed at hf;simp only[Mb] at hf;have:=abA (vars:=v) (.cons x.k x.n x.p x.c x.ks .nil) (k':=1) (i:=0) (acc:=[]) (by
  simp only[aK,Mb];rw[show bQ 1 v 0=v from rfl];exact⟨⟨hf.1,hf.2⟩,trivial⟩) (by simp only[dJ,hp.1,hp.2];rfl) rfl (λy hy=>by simp at hy)
 exact this
theorem yJ(hp:x.plain=true)(hf:formed [] 0 v x=true)(hv0:0<=v)(hv:v<=12):x.iL.length<=12:=by
 have h:=R9 (m:=(List.range v.toNat).map Int.ofNat) (J7 (Dm x)) λy hy=>by
  obtain⟨h0,h1⟩:=Zv hp hf y hy;exact List.mem_map.2 ⟨y.toNat,List.mem_range.2 ah,by simp;omega⟩
 rw[My,List.length_range] at h;omega
theorem BF(x:Nd)(K:Option I3)(cap B:Nat)(v:Int)(w:Iv)(hKs:bJ w B x.ks K)(hc:x.ks.len<=cap)(hcm:cap<=I2)(hB:B<=w.heap.size)(hsz:x.ks.size<=39)(hp:x.plain=true)(hf:formed [] 0 v x=true)(hv0:0<=v)(hv1:v<=12) :
  I0 Tryz.prog 206 #[exV x.k x.n x.p x.c K x.ks.len cap,.int .i64 v] w λe w'=>∃ A cap,e=If (.tuple #[V A x.iL.length cap,.int .i64 0])/\Ints w' A x.iL/\Ix w.heap.size w w':=by
 have hmm:=@run_makeMap Tryz.prog;have hls:=Es.aF x.ks;have fF:cap<=9223372036854775807:=by unfold I2 at hcm;omega
 obtain⟨W0,aZ⟩:=aD ((w.alloc (Is #[.int .i64 x.k,.int .i64 x.n,.int .i64 x.p,.int .i64 x.c,V K x.ks.len cap] 33)).alloc (.map #[] 0))
 have hb0:Ix w.heap.size w W0:=by rw[aZ];go_grown
 have hs0:W0.heap.size=w.heap.size+2:=by rw[aZ];simp
 have hq:au W0 w.heap.size 33 [.int .i64 x.k,.int .i64 x.n,.int .i64 x.p,.int .i64 x.c,V K x.ks.len cap]:=by
  rw[aZ];exact (au.new w 33 _).next aV
 have hm0:zx W0 (w.heap.size+1) 0 []:=by
  refine⟨.map [], ?_,λy _=>by simp[Maps.has]⟩;rw[aZ];have:=World.ownsMap_made (H:=Unit) (w.alloc (Is #[.int .i64 x.k,.int .i64 x.n,.int .i64 x.p,.int .i64 x.c,V K x.ks.len cap] 33)) Tryz.prog 2 (plainElem Tryz.prog 4);simpa using this
 have wX:=hp;unfold Nd.plain at wX;simp only[Mb] at wX;have HAV:=aj (λwx=>ko v wx);rw[show fP v 0 412=true from bH.2 ah] at HAV;have Tp:=aj (EI _ x.ks (Nat.lt_succ_self _) x.k x.n x.p x.c K cap B (w.heap.size+1) 0 [] v W0 (hKs.below (hb0.mono hB)) hc hcm ah ah hm0 ah wX.1 wX.2 hf hv0 ah);have IQ:=aj (yJ hp hf hv0 hv1);have HOS:=aj (Dm x)
 have Pg:ak (∀ y∈x.iL,(Lit.int .i64 y).wf=true):=λy hy=>by have:=Zv hp hf y hy;exact ab9 ah ah
 have q0:W0.cell? ⟨w.heap.size,0,U⟩=M (.int .i64 x.k):=ay hq
 have q1:W0.cell? ⟨w.heap.size,1,U⟩=M (.int .i64 x.n):=ay hq
 have q2:W0.cell? ⟨w.heap.size,2,U⟩=M (.int .i64 x.p):=ay hq
 have q3:W0.cell? ⟨w.heap.size,3,U⟩=M (.int .i64 x.c):=ay hq
 have q4:W0.cell? ⟨w.heap.size,4,U⟩=M (V K x.ks.len cap):=ay hq
 have HB0:=aj hb0;have dI:=aj aZ;have gQ:=aj hs0;have O_:ak (xA x.k x.n x.ks []=x.iL):=rfl;clear hKs hb0 aZ hs0 hq hm0 wX hp hf;go_enter func206,ntmps206;go_upto_region 2 with fail;rw[<-dI.o];go_wp2_with (go_at_call 152;refine (HAV.o _).mono ?_;rintro e w' ⟨rfl,rfl⟩);refine Tp.o.mono ?_;rintro e w1 ⟨rfl,⟨nn,hn,hm⟩,ho⟩;rw[O_.o] at hm;have HM:=aj (Eh (w.heap.size+1) nn x.iL w1 hm HOS.o IQ.o ah Pg.o)
 have HB1:ak (Ix w.heap.size w w1):=HB0.o.trans (ho.below (by have:=gQ.o;omega) (λq hq=>ah));clear hm ho hn;go_wp2_with (go_at_call 252;refine HM.o.mono ?_;rintro e w2 ⟨A,cp,rfl,hi,hb⟩);go_ret2;exact⟨A,cp,rfl,hi,aH HB1.o hb⟩
theorem pQ(x:Nd)(K:Option I3)(cap B:Nat)(v:Int)(w:Iv)(hKs:bJ w B x.ks K)(hc:x.ks.len<=cap)(hcm:cap<=I2)(hB:B<=w.heap.size)(hsz:x.ks.size<=39)(hp:x.plain=true)(hf:formed [] 0 v x=true)(hv0:0<=v)(hv1:v<=12) :
  I0 Tryz.prog 129 #[exV x.k x.n x.p x.c K x.ks.len cap,I J v] w λe w'=>∃ A cap,e=If (V A x.iL.length cap)/\Ints w' A x.iL/\Ix w.heap.size w w':=by
 have hls:=Es.aF x.ks;have fF:cap<=9223372036854775807:=by unfold I2 at hcm;omega
 obtain⟨W0,aZ⟩:=aD (w.alloc (Is #[I J x.k,I J x.n,I J x.p,I J x.c,V K x.ks.len cap] 33))
 have hb0:Ix w.heap.size w W0:=by rw[aZ];go_grown
 have HV:=aj (BF x K cap B v W0 (hKs.below (hb0.mono hB)) hc hcm (by have:=hb0.size;omega) hsz hp hf hv0 hv1);have HB0:=aj hb0;have dI:=aj aZ;clear hKs hb0 aZ hp hf;go_enter func129,ntmps129;go_wp2_with fail;rw[<-dI.o];refine HV.o.mono ?_;rintro e w1 ⟨A,cp,rfl,hi,hb⟩;have HI:=aj hi;have HB:=aj (HB0.o.trans (hb.mono HB0.o.size));clear hi hb;go_wp2;go_ret;exact⟨A,cp,rfl,HI.o,HB.o⟩
abbrev rZ (v:Int) (l:Nd) (KL:Option I3) (cl:Nat) (r:Nd) (KR:Option I3) (cr:Nat):I1:=
 .agg #[I J v,I J l.k,I J l.n,I J l.p,I J l.c,V KL l.ks.len cl,I J r.k,I J r.n,I J r.p,I J r.c,V KR r.ks.len cr]
theorem SG(A:Option I3)(cap:Nat)(zs:List Int)(b:Nat)(x:Int)(w:Iv)(hA:Ints w A zs)(hl:zs.length<=1048576)(hq:w.cell? ⟨b,0,U⟩=M (V A zs.length cap)) :
  I0 Tryz.prog 131 #[I J x,.pointer (M ⟨b,0,U⟩)] w λe w'=>e=If (.bool (!zs.contains x))/\w=w':=by
 have HC:=aj (pF A cap zs x w hA hl);obtain⟨rr,dG⟩:=aD (zs.contains x)
 rw[<-dG] at HC ⊢;clear hA dG;go_enter func131,ntmps131;go_wp2_with fail;refine HC.o.mono ?_;rintro e w' ⟨rfl,rfl⟩;go_wp2;go_ret;exact⟨rfl,rfl⟩
theorem I5{l:List Int}{p:Int->Bool}:(!l.any λy=>!p y)=l.all p:=by
 induction l with
 | nil=>rfl
 | cons x xs ih=>simp only[List.any_cons,List.all_cons,<-ih];cases p x<;>simp
theorem SH(v:Int)(l r:Nd)(KL KR:Option I3)(cl cr B:Nat)(w:Iv)(hL:bJ w B l.ks KL)(hcl:l.ks.len<=cl)(D7:cl<=I2)(hR:bJ w B r.ks KR)(hcr:r.ks.len<=cr)(hmr:cr<=I2)(hB:B<=w.heap.size)(hsl:l.ks.size<=1048576)(yU:r.ks.size<=1048576) :
  I0 Tryz.prog 62 #[rZ v l KL cl r KR cr] w (d9 (eF v l r) w):=by
 have hll:=Es.aF l.ks;have hlr:=Es.aF r.ks;have ahL:cl<=9223372036854775807:=by unfold I2 at D7;omega
 have ahN:cr<=9223372036854775807:=by unfold I2 at hmr;omega
 obtain⟨W0,aZ⟩:=aD (w.alloc (Is #[I J v,I J l.k,I J l.n,I J l.p,I J l.c,V KL l.ks.len cl,I J r.k,I J r.n,I J r.p,I J r.c,V KR r.ks.len cr] 35))
 have hb0:Ix w.heap.size w W0:=by rw[aZ];go_grown
 have hs0:W0.heap.size=w.heap.size+1:=by rw[aZ];simp
 have hq:au W0 w.heap.size 35 [I J v,I J l.k,I J l.n,I J l.p,I J l.c,V KL l.ks.len cl,I J r.k,I J r.n,I J r.p,I J r.c,V KR r.ks.len cr]:=by rw[aZ];exact au.new w 35 _
 have q0:W0.cell? ⟨w.heap.size,0,U⟩=M (I J v):=ay hq
 have q1:W0.cell? ⟨w.heap.size,1,U⟩=M (I J l.k):=ay hq
 have q2:W0.cell? ⟨w.heap.size,2,U⟩=M (I J l.n):=ay hq
 have q3:W0.cell? ⟨w.heap.size,3,U⟩=M (I J l.p):=ay hq
 have q4:W0.cell? ⟨w.heap.size,4,U⟩=M (I J l.c):=ay hq
 have q5:W0.cell? ⟨w.heap.size,5,U⟩=M (V KL l.ks.len cl):=ay hq
 have q6:W0.cell? ⟨w.heap.size,6,U⟩=M (I J r.k):=ay hq
 have q7:W0.cell? ⟨w.heap.size,7,U⟩=M (I J r.n):=ay hq
 have q8:W0.cell? ⟨w.heap.size,8,U⟩=M (I J r.p):=ay hq
 have q9:W0.cell? ⟨w.heap.size,9,U⟩=M (I J r.c):=ay hq
 have Iy:W0.cell? ⟨w.heap.size,10,U⟩=M (V KR r.ks.len cr):=ay hq
 have HIL:ak (∀ wx,Ix W0.heap.size W0 wx->I0 Tryz.prog 128 #[exV l.k l.n l.p l.c KL l.ks.len cl,I J v] wx (d9 (dw l v) wx)):=λwx h=>
  Db l KL cl B v wx ((hL.below (hb0.mono hB)).below (h.mono ah)) hcl D7 (by have:=h.size;omega) hsl
 have QA:ak (∀ wx,Ix W0.heap.size W0 wx->I0 Tryz.prog 128 #[exV r.k r.n r.p r.c KR r.ks.len cr,I J v] wx (d9 (dw r v) wx)):=λwx h=>
  Db r KR cr B v wx ((hR.below (hb0.mono hB)).below (h.mono ah)) hcr hmr (by have:=h.size;omega) yU
 have IQ:ak (dw l v=true->v<=3->∀ wx,Ix W0.heap.size W0 wx->I0 Tryz.prog 129 #[exV l.k l.n l.p l.c KL l.ks.len cl,I J v] wx λe w'=>∃ A cap,e=If (V A l.iL.length cap)/\Ints w' A l.iL/\Ix wx.heap.size wx w'):=λhs hv wx h=>by
  obtain⟨h1,h2,h3,h4,h5⟩:=cZ hs;exact pQ l KL cl B v wx ((hL.below (hb0.mono hB)).below (h.mono ah)) hcl D7 (by have:=h.size;omega) h1 h2 h3 h4 ah
 have HOR:ak (dw r v=true->v<=3->∀ wx,Ix W0.heap.size W0 wx->I0 Tryz.prog 129 #[exV r.k r.n r.p r.c KR r.ks.len cr,I J v] wx λe w'=>∃ A cap,e=If (V A r.iL.length cap)/\Ints w' A r.iL/\Ix wx.heap.size wx w'):=λhs hv wx h=>by
  obtain⟨h1,h2,h3,h4,h5⟩:=cZ hs;exact pQ r KR cr B v wx ((hR.below (hb0.mono hB)).below (h.mono ah)) hcr hmr (by have:=h.size;omega) h1 h2 h3 h4 ah
 have HNL:ak (dw l v=true->v<=3->l.iL.length<=12):=λhs hv=>by
  obtain⟨h1,h2,h3,h4,h5⟩:=cZ hs;exact yJ h2 h3 h4 ah
 have HNR:ak (dw r v=true->v<=3->r.iL.length<=12):=λhs hv=>by
  obtain⟨h1,h2,h3,h4,h5⟩:=cZ hs;exact yJ h2 h3 h4 ah
 have HB0:=aj hb0;have dI:=aj aZ;have IX:ak (eF v l r=(fP v 0 3&&dw l v&&dw r v&&!(l.k==2)&&r.iL.all (λy=>l.iL.contains y))):=rfl;have oI:=aj (λwx=>aT v 0 3 wx);obtain⟨ss,hss⟩:=aD (eF v l r)
 rw[<-hss] at IX ⊢;clear hL hR hb0 aZ hs0 hq hss;cases hin:fP v 0 3
 case false=>
  rw[hin] at oI IX;have HV:ak (ss=false):=IX.o;clear hin HIL QA IQ HOR HNL HNR;go_enter func62,ntmps62;go_upto_region 1 with fail;rw[<-dI.o];go_wp2_with (go_at_call 90;refine (oI.o _).mono ?_;rintro e w' ⟨rfl,rfl⟩);go_ret;exact⟨aG HV.o.symm,HB0.o⟩
 have hv3:v<=3:=(bH.1 hin).2;rw[hin] at oI IX;have yY:=aj (HIL.o W0 (Jx _ _));clear HIL hin;cases hl:dw l v
 case false=>
  rw[hl] at yY IX;have HV:ak (ss=false):=IX.o;clear hl QA IQ HOR HNL HNR;go_enter func62,ntmps62;go_upto_region 1 with fail;rw[<-dI.o];go_wp2_with (go_at_call 90;refine (oI.o _).mono ?_;rintro e w' ⟨rfl,rfl⟩);refine yY.o.mono ?_;rintro e w1 ⟨rfl,hb1⟩;have HB1:ak (Ix w.heap.size w w1):=HB0.o.trans (hb1.mono HB0.o.size);clear hb1;go_wp2;go_ret;exact⟨aG HV.o.symm,HB1.o⟩
 have aaB:=aj (IQ.o hl hv3);have agx:=HNL.o hl hv3;rw[hl] at yY IX;clear hl IQ HNL;cases hr:dw r v
 case false=>
  have HCR:ak (∀ wx,Ix W0.heap.size W0 wx->I0 Tryz.prog 128 #[exV r.k r.n r.p r.c KR r.ks.len cr,I J v] wx (d9 false wx)):=λwx h=>by have:=QA.o wx h;rwa [hr] at this
  rw[hr] at IX;have HV:ak (ss=false):=IX.o;clear hr QA HOR HNR aaB agx;go_enter func62,ntmps62;go_upto_region 1 with fail;rw[<-dI.o];go_wp2_with (go_at_call 90;refine (oI.o _).mono ?_;rintro e w' ⟨rfl,rfl⟩);refine yY.o.mono ?_;rintro e w1 ⟨rfl,hb1⟩;have HB1:ak (Ix w.heap.size w w1):=HB0.o.trans (hb1.mono HB0.o.size);have Vj:=aj (HCR.o w1 hb1);have Vd:=aj hb1
  have r0:=aB q0 hb1;have r1:=aB q1 hb1;have r2:=aB q2 hb1;have r3:=aB q3 hb1;have r4:=aB q4 hb1;have r5:=aB q5 hb1;have r6:=aB q6 hb1;have r7:=aB q7 hb1;have r8:=aB q8 hb1;have r9:=aB q9 hb1;have r10:=aB Iy hb1;clear q0 q1 q2 q3 q4 q5 q6 q7 q8 q9 Iy;clear hb1 HCR;go_wp2_with fail;refine Vj.o.mono ?_;rintro e w2 ⟨rfl,hb2⟩;have HB2:ak (Ix w.heap.size w w2):=aH HB1.o hb2
  have aau:ak (Ix W0.heap.size W0 w2):=aH Vd.o hb2;have s0:=aB r0 hb2;have s1:=aB r1 hb2;have s2:=aB r2 hb2;have s3:=aB r3 hb2;have s4:=aB r4 hb2;have s5:=aB r5 hb2;have s6:=aB r6 hb2;have s7:=aB r7 hb2;have s8:=aB r8 hb2;have s9:=aB r9 hb2;have Hy:=aB r10 hb2;clear r0 r1 r2 r3 r4 r5 r6 r7 r8 r9 r10;clear hb2;go_wp2;go_ret;exact⟨aG HV.o.symm,HB2.o⟩
 have aeP:=aj (HOR.o hr hv3);have ajo:=HNR.o hr hv3;have HCR:ak (∀ wx,Ix W0.heap.size W0 wx->I0 Tryz.prog 128 #[exV r.k r.n r.p r.c KR r.ks.len cr,I J v] wx (d9 true wx)):=λwx h=>by have:=QA.o wx h;rwa [hr] at this
 rw[hr] at IX;clear hr HOR HNR QA;cases hk:(l.k==2)
 case true=>
  rw[hk] at IX;have HV:ak (ss=false):=IX.o;clear aeP ajo aaB agx;go_enter func62,ntmps62;go_upto_region 1 with fail;rw[<-dI.o];go_wp2_with (go_at_call 90;refine (oI.o _).mono ?_;rintro e w' ⟨rfl,rfl⟩);refine yY.o.mono ?_;rintro e w1 ⟨rfl,hb1⟩;have HB1:ak (Ix w.heap.size w w1):=HB0.o.trans (hb1.mono HB0.o.size);have Vj:=aj (HCR.o w1 hb1);have Vd:=aj hb1;have r0:=aB q0 hb1
  have r1:=aB q1 hb1;have r2:=aB q2 hb1;have r3:=aB q3 hb1;have r4:=aB q4 hb1;have r5:=aB q5 hb1;have r6:=aB q6 hb1;have r7:=aB q7 hb1;have r8:=aB q8 hb1;have r9:=aB q9 hb1;have r10:=aB Iy hb1;clear q0 q1 q2 q3 q4 q5 q6 q7 q8 q9 Iy;clear hb1 HCR;go_wp2_with fail;refine Vj.o.mono ?_;rintro e w2 ⟨rfl,hb2⟩;have HB2:ak (Ix w.heap.size w w2):=aH HB1.o hb2;have aau:ak (Ix W0.heap.size W0 w2):=aH Vd.o hb2
  have s0:=aB r0 hb2;have s1:=aB r1 hb2;have s2:=aB r2 hb2;have s3:=aB r3 hb2;have s4:=aB r4 hb2;have s5:=aB r5 hb2;have s6:=aB r6 hb2;have s7:=aB r7 hb2;have s8:=aB r8 hb2;have s9:=aB r9 hb2;have Hy:=aB r10 hb2;clear r0 r1 r2 r3 r4 r5 r6 r7 r8 r9 r10;clear hb2;go_wp2;go_ret;exact⟨aG HV.o.symm,HB2.o⟩
 rw[hk] at IX;have HV:ak (ss=!r.iL.any λy=>!l.iL.contains y):=by show _=_;rw[IX.o,I5];rfl
 obtain⟨aa,TA⟩:=aD (r.iL.any λy=>!l.iL.contains y)
 rw[<-TA] at HV;have HAA:=aj TA;clear IX TA;go_enter func62,ntmps62;go_upto_region 1 with fail;rw[<-dI.o];go_wp2_with (go_at_call 90;refine (oI.o _).mono ?_;rintro e w' ⟨rfl,rfl⟩);refine yY.o.mono ?_;rintro e w1 ⟨rfl,hb1⟩;have HB1:ak (Ix w.heap.size w w1):=HB0.o.trans (hb1.mono HB0.o.size);have Vj:=aj (HCR.o w1 hb1);have Vd:=aj hb1;have r0:=aB q0 hb1;have r1:=aB q1 hb1
 have r2:=aB q2 hb1;have r3:=aB q3 hb1;have r4:=aB q4 hb1;have r5:=aB q5 hb1;have r6:=aB q6 hb1;have r7:=aB q7 hb1;have r8:=aB q8 hb1;have r9:=aB q9 hb1;have r10:=aB Iy hb1;clear q0 q1 q2 q3 q4 q5 q6 q7 q8 q9 Iy;clear hb1 HCR;go_wp2_with fail;refine Vj.o.mono ?_;rintro e w2 ⟨rfl,hb2⟩;have HB2:ak (Ix w.heap.size w w2):=aH HB1.o hb2;have aau:ak (Ix W0.heap.size W0 w2):=aH Vd.o hb2
 have s0:=aB r0 hb2;have s1:=aB r1 hb2;have s2:=aB r2 hb2;have s3:=aB r3 hb2;have s4:=aB r4 hb2;have s5:=aB r5 hb2;have s6:=aB r6 hb2;have s7:=aB r7 hb2;have s8:=aB r8 hb2;have s9:=aB r9 hb2;have Hy:=aB r10 hb2;clear r0 r1 r2 r3 r4 r5 r6 r7 r8 r9 r10;clear hb2;have mK:=aj (aaB.o w2 aau.o);clear aaB;go_wp2_with fail;refine mK.o.mono ?_;rintro e w3 ⟨AL,aaV,rfl,hiL,hb3⟩
 have HIL:=aj hiL;have HB3:ak (Ix w.heap.size w w3):=aH HB2.o hb3;have aiV:ak (Ix W0.heap.size W0 w3):=aH aau.o hb3;have t0:=aB s0 hb3;have t1:=aB s1 hb3;have t2:=aB s2 hb3;have t3:=aB s3 hb3;have t4:=aB s4 hb3;have t5:=aB s5 hb3;have t6:=aB s6 hb3;have t7:=aB s7 hb3;have t8:=aB s8 hb3;have t9:=aB s9 hb3;have t10:=aB Hy hb3;clear s0 s1 s2 s3 s4 s5 s6 s7 s8 s9 Hy
 clear hb3 hiL;obtain⟨W3,jw⟩:=aD (w3.alloc (Is #[V AL l.iL.length aaV] 28))
 have hb4:Ix w3.heap.size w3 W3:=by rw[jw];go_grown
 have hc4:W3.cell? ⟨w3.heap.size,0,U⟩=M (V AL l.iL.length aaV):=by rw[jw,(au.new w3 28 [V AL l.iL.length aaV]).cell];rfl
 have Te:ak (Ix w.heap.size w W3):=aH HB3.o hb4;have aiW:ak (Ix W0.heap.size W0 W3):=aH aiV.o hb4;have ajl:=aj (HIL.o.below hb4);have u0:=aB t0 hb4;have u1:=aB t1 hb4;have u2:=aB t2 hb4;have u3:=aB t3 hb4;have u4:=aB t4 hb4;have u5:=aB t5 hb4;have u6:=aB t6 hb4;have u7:=aB t7 hb4;have u8:=aB t8 hb4;have u9:=aB t9 hb4;have vE:=aB t10 hb4;clear t0 t1 t2 t3 t4 t5 t6 t7 t8 t9 t10
 have HW3:=aj jw;have uZ:=aj (aeP.o W3 aiW.o);clear hb4 jw aeP;go_upto_region 4 with fail;rw[<-HW3.o];go_wp2_with fail;refine uZ.o.mono ?_;rintro e w4 ⟨AR,akb,rfl,hiR,hb5⟩;have hc5:=aB hc4 hb5;have HCC:=aj (vV AR akb r.iL w4 hiR ah 131 (enters func131 aL rfl) #[.pointer (M ⟨w3.heap.size,0,U⟩)] (λy=>!l.iL.contains y) (λx=>SG AL aaV l.iL w3.heap.size x w4 (ajl.o.below hb5) ah hc5))
 rw[<-HAA.o] at HCC;have IL:ak (Ix w.heap.size w w4):=aH Te.o hb5;clear hb5 hiR hc4 hc5;go_wp2_with fail;refine HCC.o.mono ?_;rintro e w5 ⟨rfl,rfl⟩;go_wp2;go_ret;exact⟨aG HV.o.symm,IL.o⟩
theorem ab6(a b:Nat)(y:Int):nI (a+b) y=if 0<=nI a y then nI b (nI a y) else -1:=by
 by_cases h1:(a:Int)<=y
 ·rw[je h1,if_pos (show 0<=y - a by omega)]
  by_cases h2:(b:Int)<=y - a
  ·rw[je h2,je ah];omega
  ·rw[kV h2,kV ah]
 ·rw[kV h1,if_neg ah,kV ah]
theorem DK(v:Int)(l r:Nd)(KL KR:Option I3)(cl cr B:Nat)(y:Int)(w:Iv)(hL:bJ w B l.ks KL)(D7:l.ks.len<=9223372036854775807)(hR:bJ w B r.ks KR)(hmr:r.ks.len<=9223372036854775807)(hB:B<=w.heap.size)(y0:0<=y)(y1:y<=1048576) :
  I0 Tryz.prog 10 #[rZ v l KL cl r KR cr,I J y] w λe w'=>e=If (I J (nI (l.ks.size+r.ks.size) y))/\Ix w.heap.size w w':=by
 obtain⟨W0,aZ⟩:=aD (w.alloc (Is #[I J v,I J l.k,I J l.n,I J l.p,I J l.c,V KL l.ks.len cl,I J r.k,I J r.n,I J r.p,I J r.c,V KR r.ks.len cr] 26))
 have hb0:Ix w.heap.size w W0:=by rw[aZ];go_grown
 have hq:au W0 w.heap.size 26 [I J v,I J l.k,I J l.n,I J l.p,I J l.c,V KL l.ks.len cl,I J r.k,I J r.n,I J r.p,I J r.c,V KR r.ks.len cr]:=by rw[aZ];exact au.new w 26 _
 have gX:=aj (nM (kG l.ks) l.k l.n l.p l.c KL cl B y W0 (hL.below (hb0.mono hB)) (Mp hB hb0.size) D7 y0 y1);have fH:ak (∀ wx z,Ix W0.heap.size W0 wx->0<=z->z<=1048576->I0 Tryz.prog 20 #[exV r.k r.n r.p r.c KR r.ks.len cr,I J z] wx λe w'=>e=If (I J (nI r.ks.size z))/\Ix wx.heap.size wx w'):=λwx z h z0 z1=>
  nM (kG r.ks) r.k r.n r.p r.c KR cr B z wx ((hR.below (hb0.mono hB)).below (h.mono (Mp hB hb0.size))) (Mp (Mp hB hb0.size) h.size) hmr z0 z1
 have q1:W0.cell? ⟨w.heap.size,1,U⟩=M (I J l.k):=ay hq
 have q2:W0.cell? ⟨w.heap.size,2,U⟩=M (I J l.n):=ay hq
 have q3:W0.cell? ⟨w.heap.size,3,U⟩=M (I J l.p):=ay hq
 have q4:W0.cell? ⟨w.heap.size,4,U⟩=M (I J l.c):=ay hq
 have q5:W0.cell? ⟨w.heap.size,5,U⟩=M (V KL l.ks.len cl):=ay hq
 have q6:W0.cell? ⟨w.heap.size,6,U⟩=M (I J r.k):=ay hq
 have q7:W0.cell? ⟨w.heap.size,7,U⟩=M (I J r.n):=ay hq
 have q8:W0.cell? ⟨w.heap.size,8,U⟩=M (I J r.p):=ay hq
 have q9:W0.cell? ⟨w.heap.size,9,U⟩=M (I J r.c):=ay hq
 have Iy:W0.cell? ⟨w.heap.size,10,U⟩=M (V KR r.ks.len cr):=ay hq
 have HB0:=aj hb0;have dI:=aj aZ;clear hL hR hb0 aZ hq;have HSP:ak (nI (l.ks.size+r.ks.size) y=if 0<=nI l.ks.size y then nI r.ks.size (nI l.ks.size y) else -1):=by
  exact ab6 _ _ _
 have hs1:nI l.ks.size y<=1048576:=by unfold nI;split<;>omega
 have hs0:nI l.ks.size y=-1∨0<=nI l.ks.size y:=by unfold nI;split<;>omega
 obtain⟨u,hu⟩:=aD (nI l.ks.size y)
 rw[<-hu] at gX HSP hs0 hs1;obtain⟨t,ht⟩:=aD (nI (l.ks.size+r.ks.size) y)
 rw[<-ht] at HSP ⊢;clear hu ht
 rcases hs0 with rfl | hs0
 ·have HV:ak (t=-1):=by show _=_;rw[HSP.o,if_neg ah]
  go_enter func10,ntmps10;go_wp2_with fail;rw[<-dI.o];refine gX.o.mono ?_;rintro e w1 ⟨rfl,hb1⟩;have HB1:ak (Ix w.heap.size w w1):=HB0.o.trans (hb1.mono HB0.o.size);clear hb1;go_wp2;go_ret;exact⟨bR HV.o.symm,HB1.o⟩
 ·have HV:ak (t=nI r.ks.size u):=by show _=_;rw[HSP.o,if_pos hs0]
  have hr:nI r.ks.size u=-1∨0<=nI r.ks.size u:=by unfold nI;split<;>omega
  have Vh:ak (∀ wx,Ix W0.heap.size W0 wx->I0 Tryz.prog 20 #[exV r.k r.n r.p r.c KR r.ks.len cr,I J u] wx λe w'=>e=If (I J t)/\Ix wx.heap.size wx w'):=λwx h=>by rw[HV.o];exact fH.o wx u h hs0 hs1
  rw[<-HV.o] at hr;clear HV fH HSP;go_enter func10,ntmps10;go_wp2_with fail;rw[<-dI.o];refine gX.o.mono ?_;rintro e w1 ⟨rfl,hb1⟩;have HB1:ak (Ix w.heap.size w w1):=HB0.o.trans (hb1.mono HB0.o.size);have r6:=aB q6 hb1;have r7:=aB q7 hb1;have r8:=aB q8 hb1;have r9:=aB q9 hb1;have r10:=aB Iy hb1;have LC:=aj (Vh.o w1 hb1);clear hb1 q1 q2 q3 q4 q5 q6 q7 q8 q9 Iy
  go_wp2_with fail;refine LC.o.mono ?_;rintro e w2 ⟨rfl,hb2⟩;have HB2:=aj (aH HB1.o hb2);clear hb2
  rcases hr with rfl | hr
  ·go_wp2
   go_ret;exact⟨rfl,HB2.o⟩
  ·have hr':¬ t<0:=ah
   go_wp2;go_ret;exact⟨rfl,HB2.o⟩
theorem Nc(v:Int)(l r:Nd)(KL KR KL' KR':Option I3)(cl cr cl' cr' B:Nat)(w:Iv)(hL:bJ w B l.ks KL)(hR:bJ w B r.ks KR)(hL':bJ w B l.ks KL')(hR':bJ w B r.ks KR')(hB:B<=w.heap.size)(hl:l.ks.size<=1048576)(hr:r.ks.size<=1048576) :
  I0 Tryz.prog 15 #[rZ v l KL cl r KR cr,rZ v l KL' cl' r KR' cr'] w λe w'=>e=If (.bool true)/\Ix w.heap.size w w':=by
 obtain⟨C,hC⟩:∃ C:List I1,C=[I J v,I J l.k,I J l.n,I J l.p,I J l.c,V KL l.ks.len cl,I J r.k,I J r.n,I J r.p,I J r.c,V KR r.ks.len cr]:=⟨_,rfl⟩
 obtain⟨C',hC'⟩:∃ C:List I1,C=[I J v,I J l.k,I J l.n,I J l.p,I J l.c,V KL' l.ks.len cl',I J r.k,I J r.n,I J r.p,I J r.c,V KR' r.ks.len cr']:=⟨_,rfl⟩
 obtain⟨W0,aZ⟩:=aD ((w.alloc (Is #[I J v,I J l.k,I J l.n,I J l.p,I J l.c,V KL l.ks.len cl,I J r.k,I J r.n,I J r.p,I J r.c,V KR r.ks.len cr] 35)).alloc (Is #[I J v,I J l.k,I J l.n,I J l.p,I J l.c,V KL' l.ks.len cl',I J r.k,I J r.n,I J r.p,I J r.c,V KR' r.ks.len cr'] 35))
 have hb0:Ix w.heap.size w W0:=by rw[aZ];go_grown
 have hq:au W0 w.heap.size 35 C:=by rw[aZ,hC];exact (au.new w 35 _).next aV
 have BQ:au W0 (w.heap.size+1) 35 C':=by
  rw[aZ,hC'];have:=au.new (w.alloc (Is #[I J v,I J l.k,I J l.n,I J l.p,I J l.c,V KL l.ks.len cl,I J r.k,I J r.n,I J r.p,I J r.c,V KR r.ks.len cr] 35)) 35 [I J v,I J l.k,I J l.n,I J l.p,I J l.c,V KL' l.ks.len cl',I J r.k,I J r.n,I J r.p,I J r.c,V KR' r.ks.len cr']
  simpa using this
 have gX:=aj (ql (mF (l.ks.size+1) l.ks ah) l.k l.n l.p l.c KL KL' cl cl' B W0 (hL.below (hb0.mono hB)) (hL'.below (hb0.mono hB)) (Mp hB hb0.size) hl);have fH:ak (∀ wx,Ix W0.heap.size W0 wx->I0 Tryz.prog 26 #[exV r.k r.n r.p r.c KR r.ks.len cr,exV r.k r.n r.p r.c KR' r.ks.len cr'] wx λe w'=>e=If (.bool true)/\Ix wx.heap.size wx w'):=λwx h=>
  ql (mF (r.ks.size+1) r.ks ah) r.k r.n r.p r.c KR KR' cr cr' B wx ((hR.below (hb0.mono hB)).below (h.mono (Mp hB hb0.size))) ((hR'.below (hb0.mono hB)).below (h.mono (Mp hB hb0.size))) (Mp (Mp hB hb0.size) h.size) hr
 subst hC hC';have q0:W0.cell? ⟨w.heap.size,0,U⟩=M (I J v):=ay hq
 have p0:W0.cell? ⟨w.heap.size+1,0,U⟩=M (I J v):=ay BQ
 have q1:W0.cell? ⟨w.heap.size,1,U⟩=M (I J l.k):=ay hq
 have p1:W0.cell? ⟨w.heap.size+1,1,U⟩=M (I J l.k):=ay BQ
 have q2:W0.cell? ⟨w.heap.size,2,U⟩=M (I J l.n):=ay hq
 have p2:W0.cell? ⟨w.heap.size+1,2,U⟩=M (I J l.n):=ay BQ
 have q3:W0.cell? ⟨w.heap.size,3,U⟩=M (I J l.p):=ay hq
 have p3:W0.cell? ⟨w.heap.size+1,3,U⟩=M (I J l.p):=ay BQ
 have q4:W0.cell? ⟨w.heap.size,4,U⟩=M (I J l.c):=ay hq
 have p4:W0.cell? ⟨w.heap.size+1,4,U⟩=M (I J l.c):=ay BQ
 have q5:W0.cell? ⟨w.heap.size,5,U⟩=M (V KL l.ks.len cl):=ay hq
 have p5:W0.cell? ⟨w.heap.size+1,5,U⟩=M (V KL' l.ks.len cl'):=ay BQ
 have q6:W0.cell? ⟨w.heap.size,6,U⟩=M (I J r.k):=ay hq
 have p6:W0.cell? ⟨w.heap.size+1,6,U⟩=M (I J r.k):=ay BQ
 have q7:W0.cell? ⟨w.heap.size,7,U⟩=M (I J r.n):=ay hq
 have p7:W0.cell? ⟨w.heap.size+1,7,U⟩=M (I J r.n):=ay BQ
 have q8:W0.cell? ⟨w.heap.size,8,U⟩=M (I J r.p):=ay hq
 have p8:W0.cell? ⟨w.heap.size+1,8,U⟩=M (I J r.p):=ay BQ
 have q9:W0.cell? ⟨w.heap.size,9,U⟩=M (I J r.c):=ay hq
 have p9:W0.cell? ⟨w.heap.size+1,9,U⟩=M (I J r.c):=ay BQ
 have Iy:W0.cell? ⟨w.heap.size,10,U⟩=M (V KR r.ks.len cr):=ay hq
 have p10:W0.cell? ⟨w.heap.size+1,10,U⟩=M (V KR' r.ks.len cr'):=ay BQ
 have HB0:=aj hb0;have dI:=aj aZ;clear hL hR hL' hR' hb0 aZ hq BQ;go_enter func15,ntmps15;go_upto_region 1 with fail;rw[<-dI.o];go_wp2_with fail;refine gX.o.mono ?_;rintro e w1 ⟨rfl,hb1⟩;have HB1:ak (Ix w.heap.size w w1):=HB0.o.trans (hb1.mono HB0.o.size);have r6:=aB q6 hb1;have s6:=aB p6 hb1;have r7:=aB q7 hb1;have s7:=aB p7 hb1;have r8:=aB q8 hb1;have s8:=aB p8 hb1
 have r9:=aB q9 hb1;have s9:=aB p9 hb1;have r10:=aB Iy hb1;have Hy:=aB p10 hb1;clear q0 p0 q1 p1 q2 p2 q3 p3 q4 p4 q5 p5 q6 p6 q7 p7 q8 p8 q9 p9 Iy p10;have LC:=aj (fH.o w1 hb1);clear hb1;go_wp2_with fail;refine LC.o.mono ?_;rintro e w2 ⟨rfl,hb2⟩;have HB2:=aj (aH HB1.o hb2);clear hb2;go_wp2;go_ret;exact⟨rfl,HB2.o⟩
def rP(lo hi:Nat)(l r:Nd)(g1 g2:Nat)(w:Iv):Prop:=∃ mid,lo<=g1/\g1<mid/\iN w l.ks (g1+1) mid g1 0/\mid<=g2/\g2<hi/\iN w r.ks (g2+1) hi g2 0
variable{lo hi g1 g2:Nat}{l r:Nd}{w:Iv}
theorem rP.keep{w':Iv}(h:rP lo hi l r g1 g2 w)(hb:∀ q,lo<=q->q<hi->w'.heap[q]? = w.heap[q]?):rP lo hi l r g1 g2 w':=by
 obtain⟨mid,h1,h2,h3,h4,h5,h6⟩:=h;exact⟨mid,h1,h2,h3.keep (aN.of_block (hb g1 h1 ah) _ _) (λq q1 q2=>hb q ah ah),h4,h5,h6.keep (aN.of_block (hb g2 ah h5) _ _) (λq q1 q2=>hb q ah ah)⟩
variable{B:Nat}
theorem rP.left(h:rP lo hi l r g1 g2 w)(hB:hi<=B):bJ w B l.ks (M ⟨g1,0,U⟩):=by
 obtain⟨mid,h1,h2,h3,h4,h5,h6⟩:=h;exact⟨g1,0,λ_=>rfl,h3.exs ah ah⟩
theorem rP.right(h:rP lo hi l r g1 g2 w)(hB:hi<=B):bJ w B r.ks (M ⟨g2,0,U⟩):=by
 obtain⟨mid,h1,h2,h3,h4,h5,h6⟩:=h;exact⟨g2,0,λ_=>rfl,h6.exs hB ah⟩
end
end Go.Proofs.YtgfkglhelfkpoaaGreat
