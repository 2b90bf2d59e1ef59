/- Texts put together: WQv6, WQv7. -/
import Derived.Test.YtgfkglhelfkpoaaGreatRPF
set_option maxRecDepth 100000
set_option maxHeartbeats 4000000
open Go.Lib (hid)
namespace Go.Proofs.YtgfkglhelfkpoaaGreat
section
open Go.RowKit Plain
def callR (g:List (List Term')→Nat→Res (List Term')):Res (List (List Term'))→Res (List Term')
 | .err e=>.err e
 | .ok zs s=>g zs s
theorem lsOfQ {w w':World} {B g:Nat} {S:Nat→Prop} {u:Int} {P:List Fn} {fn:Int} {x:Nd} {b o:Nat} {A:Option Addr} {env:List (List Term')} {ecap:Nat} {K:Option Addr} {cap:Nat} (h:SdInP w B S u P fn x b o A env ecap) (ho:Only S w w') (hb:Below B w w') (hg:w.heap.size≤g) (hks:ExSl w B x.ks K) (h1:x.ks.len≤cap) (h2:cap≤maxLen) (hk:x.k≠9):LsInP w' B (privS S g) u P fn x.ks K cap A env ecap:=
 ⟨hks.below hb,h1,h2,h.envA.fresh ho hg,h.el,h.em,h.big,h.size,fun j y hy=>by have:=formed_kids h.form hy;rwa [kidVars_ne hk] at this,h.f0,h.f1⟩
def OutsQ (P:List Fn) (u:Int) (f:Nat):Prop:=∀ (es:Es) (env:List (List Term')) (s:Int) (t:Nat) (c0 fn:Int) (K:Option Addr) (cap bf of_ B:Nat) (S:Nat→Prop) (bv:Nat) (A:Option Addr) (ecap bp op:Nat) (w:World),SvIn w B bv 1 P bp op→SIn w B S bv u→Cells w bv 161 (hdQ u bp op++[.int .i64 s,.int .i64 c0])→(c0=0→s=(t:Int)∧t≤3000∧3001≤t+f) →
 LsInP w B S u P fn es K cap A env ecap→w.cell? ⟨bf,of_+2,none⟩=some (.slice K es.len cap)→bf<B →
 Calls Tryz.prog 107 #[.pointer (some ⟨bv,0,none⟩),ptr bf of_,.slice A env.length ecap] w (PsPost S bv u es.len 161 (hdQ u bp op) (pvAC u P f c0 es env t) w)
theorem outsQ_of (P:List Fn) (u:Int) (f:Nat) (IH:ExprQ P u f):OutsQ P u f:=by
 intro es env s t c0 fn K cap bf of_ B S bv A ecap bp op w hI hS hst hf hN hsrc hbf
 obtain ⟨i0,hi,hz0,hz1,hz2⟩:=info_parts Tryz.infoPo
 have HIH:=hid IH;clear IH
 obtain ⟨R,hR⟩:∃ R,R=pvAC u P f c0 es env t:=⟨_,rfl⟩
 rw [←hR]
 have HM0:Hid (MidP u P f R es env [] s c0):=by rw [hR];exact MidP.start hf
 clear hR hf
 have al:=hI.lt
 have al2:bv<w.heap.size:=al
 have hB:=hI.blow
 have hsw:bf<w.heap.size:=by omega
 obtain ⟨bk,ok,hK,hks⟩:=hN.kids
 have HKS:=hid hks
 have hls:=Es.len_le_size es
 have hsz:=hN.size
 have hkl:=hN.kl
 have hkm:cap≤9223372036854775807:=by have:=hN.km;unfold maxLen at this;omega
 have HI:=hid hI
 have HSI:=hid hS
 have HN:=hid hN
 have HST:=hid hst
 have HSRC:=hid hsrc
 clear hI hN hst hks hS hsrc
 go_enter Tryz.func107,Tryz.ntmps107
 go_wp2
 go_loopw [7,8] (fun o_ i wr=>∃ (j:Nat) (es':Es) (tss:List (List Term')) (g:Nat) (s' c':Int),i=.int .i64 (j:Int)∧Hid (o_.ownBlock=some g∧w.heap.size≤g∧g<wr.heap.size)∧j+es'.len=es.len∧Hid (tss.length=j)∧Hid (es'.size≤es.size)∧Hid (∀ i,es'.get? i=es.get? (j+i))∧Hid (ExsAt wr B es' bk (ok+j*5)) ∧
  Hid (PRow wr w.heap.size S u o_ tss)∧Hid (Cells wr bv 161 (hdQ u bp op++[.int .i64 s',.int .i64 c']))∧Hid (Only (fun q=>q=bv) w wr)∧Hid (MidP u P f R es' env tss s' c')) (fun _ i _=>es.len - (intOf i).toNat)
 case atStart=>
  have hg:Below w.heap.size w (w.alloc (.cells #[] 86)):=by go_grown
  refine ⟨0,es,[],w.heap.size,s,c0,by go_num,⟨rfl,Nat.le_refl _,by simp⟩,by omega,rfl,Nat.le_refl _,fun i=>by rw [Nat.zero_add], ?_,PRow.start w S u,HST.out.next hg,Only.of_below hg,HM0.out⟩
  show ExsAt _ _ _ _ _;rw [Nat.zero_mul,Nat.add_zero];exact HKS.out.below (hg.mono (by omega))
 case round=>
  obtain ⟨j,es',tss,g,s',c',rfl,hG,hj,htl,hsz2,hget,HE,HR,HS,HO,HM⟩:=hrel
  have src':wr.cell? ⟨bf,of_+2,none⟩=some (.slice K es.len cap):=(HO.out.cell (a:=⟨bf,of_+2,none⟩) hsw (show ¬ bf=bv by omega)).trans HSRC.out
  have hbfr:bf<wr.heap.size:=by have:=HO.out.size;omega
  cases es' with
  | nil=>
   simp only [Es.len] at hj
   obtain rfl:j=es.len:=by omega
   obtain ⟨Av,cp,rfl,q1,q2,q3⟩:=HR.out.env (fun q hq=>HSI.out.lt q hq)
   rw [htl.out] at q1
   have htl2:=htl.out
   have HP:Hid (PsPost S bv u es.len 161 (hdQ u bp op) R w (.returned (.slice Av es.len cp)) wr):=⟨Av,cp,tss,s',c',rfl,htl2,q1,q2,q3,HS.out,HO.out,HM.out.end_⟩
   rw [htl2]
   clear q1 q2 q3 htl2
   go_wp2
   go_ret
   exact HP.out
  | cons kk m' p' c1 ks' r=>
   simp only [Es.len] at hj
   have hK:=hK (by omega)
   subst hK
   obtain ⟨hel,hr⟩:=HE.out
   have HRE:=hid hr
   have hget0:es.get? j=some ⟨kk,m',p',c1,ks'⟩:=by have:=hget.out 0;rw [Nat.add_zero] at this;rw [←this];rfl
   have hgetr:Hid (∀ i,r.get? i=es.get? (j+1+i)):=fun i=>by have:=hget.out (i+1);rw [show j+1+i=j+(i+1) by omega,←this];rfl
   have hrs:Hid (r.size≤es.size):=by have:=hsz2.out;simp only [Es.size] at this;show _≤_;omega
   have hoS:Only S w wr:=HO.out.sub fun q e=>by rw [e];exact HSI.out.bv
   have HNK:Hid (SdInP wr B (privS S g) u P fn ⟨kk,m',p',c1,ks'⟩ bk (ok+j*5) A env ecap):=⟨hel,HN.out.envA.fresh hoS hG.out.2.1,HN.out.el,HN.out.em,by have:=HN.out.big;have:=Es.get?_depth hget0;show env.length+ks'.depth≤1000000;simp only at this;omega,by have:=HN.out.size;have:=Es.get?_size hget0;show ks'.size≤400;simp only at this;omega,HN.out.form j _ hget0,HN.out.f0,HN.out.f1⟩
   have HSI2:=hid (HSI.out.fresh HO.out.size hG.out.2.1 hG.out.2.2 (by omega))
   have hjl:(j:Int)<(es.len:Int):=by omega
   clear hr hget0 hel HE hget hsz2 hoS
   go_wp2_with fail
   refine (HIH.out ⟨kk,m',p',c1,ks'⟩ env s' s'.toNat c' fn bk (ok+j*5) B (privS S g) bv A ecap bp op wr (HI.out.only HO.out) HSI2.out HS.out HM.out.now HNK.out).mono ?_;rintro e w1 ⟨v,ts,s2,cc2,rfl,⟨Az,cz,rfl,hpz,hkz⟩,hS1,hO1,hres⟩
   have HR1:=hid (HR.out.only HSI.out.bv al2 hO1)
   have HM1:=hid (HM.out.step hres)
   have HO1:=hid (HO.out.trans hO1)
   have HE1:Hid (ExsAt w1 B r bk (ok+(j+1)*5)):=by
    have:=HRE.out.below (only_below hO1 hB (by have:=HO.out.size;omega))
    rwa [show ok+j*5+5=ok+(j+1)*5 by omega] at this
   have HS1:=hid hS1
   have HPZ:=hid (And.intro hpz hkz)
   have hs12:=hO1.size
   obtain ⟨ps,hG1,hps,hoks,hkp⟩:=HR1.out
   have hpl:ps.length=j:=by have:=congrArg List.length hps;rw [List.length_map,htl.out] at this;exact this
   have HG1:=hid hG1
   have HKP:=hid hkp
   have HOKS:=hid hoks
   have HPS:=hid hps
   have hw1:w.heap.size≤w1.heap.size:=HO1.out.size
   clear hpz hkz hS1 hO1 hres hG1 hps hoks hkp HR HM HO HS HRE HNK src'
   obtain ⟨W1',hW1'⟩:∃ W,W=w1.alloc (.cells (poD u (ts,Az,cz)).toArray 86):=⟨_,rfl⟩
   have hb2:Below w1.heap.size w1 W1':=by rw [hW1'];go_grown
   have hC2:Cells W1' w1.heap.size 86 (poD u (ts,Az,cz)):=by rw [hW1'];exact Cells.new _ _ _
   have HOW:=hid (HG1.out.below hb2).own
   have HB2:=hid hb2
   have HC2:=hid hC2
   have HW1':=hid hW1'
   clear hb2 hC2 hW1'
   go_wp2_with (at_builtin;change wpList _ _ _ _ _ (w1.alloc (.cells (poD u (ts,Az,cz)).toArray 86));rw [←HW1'.out];refine wpList_append_own_at _ rfl _ _ 162 rfl w.heap.size 86 i0 (.agg #[.int .i64 0,.slice none 0 0]) 2 32 Tryz.underlying162 hi hz0 hz1 hz2 rfl (by decide) _ _ _ rfl HOW.out ⟨w1.heap.size,0,none⟩ 1 1 (poD u (ts,Az,cz)) rfl rfl ?c1 ?c2 ?c3 ?c4 ?c5 ?_)
   case c1=>intro q z hz;rw [addr_add,Nat.zero_add];exact (HC2.out.cell q).trans hz
   case c2=>intro z hz;simp only [poD,List.mem_cons,List.not_mem_nil,or_false] at hz;rcases hz with rfl | rfl<;>rfl
   case c3=>simp only [List.length_map];unfold maxLen;omega
   case c4=>simp only [List.length_map];omega
   case c5=>have:=HB2.out.size;omega
   intro v2 w2 hown0 hg2 _ hat
   have hown:w2.ownsRow w.heap.size 86 2 v2 ((ps.map (poEl S u)).length+1) ((ps.map (poEl S u)).flatMap (·.1)++poD u (ts,Az,cz)):=by
    rw [List.length_map,hpl]
    exact hown0
   have hgl:=(HG1.out.lt hG.out.1)
   obtain ⟨hp2,hbl⟩:=PRow.push (p:=(ts,Az,cz)) HG1.out (by rw [HPS.out];exact HOKS.out) HKP.out hG.out.1 (Below.refl _ _) HPZ.out.1 HPZ.out.2 HB2.out hown hg2 hat
   rw [HPS.out] at hp2
   have hg3:∃ g3,v2.ownBlock=some g3∧w.heap.size≤g3∧g3<w2.heap.size:=by
    have hs2:=hg2.size
    have hs1:=HB2.out.size
    rcases hat with e | e
    ·exact ⟨g,e.trans hG.out.1,hgl.1,by omega⟩
    ·exact ⟨W1'.heap.size,e,by omega,(World.ownsRow.lt hown _ e).2⟩
   obtain ⟨g3,hg3⟩:=hg3
   have HG3:=hid hg3
   have HP2:=hid hp2
   have HS2:Hid (Cells w2 bv 161 (hdQ u bp op++[.int .i64 s2,.int .i64 cc2])):=(hbl.block bv al2).trans HS1.out
   have HO2:Hid (Only (fun q=>q=bv) w w2):=⟨hbl.os.trans HO1.out.os,hbl.tape.trans HO1.out.tape,hbl.output.trans HO1.out.output,Nat.le_trans HO1.out.size hbl.size,fun q hq hn=>(hbl.block q hq).trans (HO1.out.block q hq hn)⟩
   have HE2:Hid (ExsAt w2 B r bk (ok+(j+1)*5)):=HE1.out.below (hbl.mono (by omega))
   have htl2:Hid ((tss++[ts]).length=j+1):=by show _=_;rw [List.length_append,htl.out];rfl
   clear hown hown0 hg2 hat hp2 hbl hg3 HG1 HKP HOKS HPS HOW HC2 HB2 HPZ hgl HW1'
   go_wp2
   go_roundw
   case rel=>exact ⟨j+1,r,tss++[ts],g3,s2,cc2,by go_num,HG3,by omega,htl2,hrs,hgetr,HE2,HP2,HS2,HO2,HM1⟩
   case measure=>simp [intOf];omega
theorem callQ10 (P:List Fn) (u:Int) (f:Nat) (IH:ExprQ P u f) (m pi:Nat) (xc:Int) (es:Es) (fg:Fn) (y:Nd) (env:List (List Term')) (t:Nat) (fn:Int) (b o B:Nat) (S:Nat→Prop) (bv:Nat) (A:Option Addr) (ecap bp op:Nat) (w:World) (hI:SvIn w B bv 1 P bp op) (hS:SIn w B S bv u) (hst:Cells w bv 161 (hdQ u bp op++[.int .i64 t,.int .i64 0])) (ht:t≤3000) (htf:3001≤t+f) (hN0:SdInP w B S u P fn ⟨10,m,pi,xc,es⟩ b o A env ecap) (hC:CallIn P m pi xc es 10 fg y) :
  Calls Tryz.prog 201 #[.pointer (some ⟨bv,0,none⟩),ptr b o,.slice A env.length ecap] w (PPost S bv u 161 (hdQ u bp op) (callR (fun zs s1=>pv u P f y zs s1) (pvAll (pv u P f) env es t)) w):=by
 obtain ⟨i0,hi,hz0,hz1,hz2⟩:=info_parts Tryz.infoPo
 have HIH:=hid IH
 obtain ⟨rr,hrr⟩:∃ rr:Res (List Term'),rr=callR (fun zs s1=>pv u P f y zs s1) (pvAll (pv u P f) env es t):=⟨_,rfl⟩
 rw [←hrr]
 have HRR:=hid hrr
 obtain ⟨s,hs⟩:∃ s:Int,s=t:=⟨_,rfl⟩
 rw [←hs] at hst
 obtain ⟨c0,hc0⟩:∃ c0:Int,c0=0:=⟨_,rfl⟩
 rw [←hc0] at hst
 obtain ⟨R,hR⟩:∃ R,R=pvAC u P f c0 es env t:=⟨_,rfl⟩
 have HM0:Hid (MidP u P f R es env [] s c0):=by rw [hR];exact MidP.start fun _=>⟨hs,ht,htf⟩
 have HR0:Hid (R=pvAll (pv u P f) env es t):=by show _=_;rw [hR];unfold pvAC;rw [if_pos hc0]
 clear hR hs hc0 hrr IH
 have al:=hI.lt
 have hB:=hI.blow
 have u0:=hS.u0
 have u1:=hS.u1
 obtain ⟨W0,hW0⟩:∃ W0,W0=w.alloc (.cells #[.int .i64 0,.slice none 0 0] 86):=⟨_,rfl⟩
 have hg0:Below w.heap.size w W0:=by rw [hW0];go_grown
 have hs0:W0.heap.size=w.heap.size+1:=by rw [hW0];simp
 have HQ:Hid (Cells W0 w.heap.size 86 [.int .i64 0,.slice none 0 0]):=by show Cells _ _ _ _;rw [hW0];exact Cells.new w _ _
 have HST:=hid (hst.next hg0)
 have HSI:=hid (hS.fresh (wa:=W0) (g:=w.heap.size) (by omega) (Nat.le_refl _) (by omega) (by omega))
 have HI:=hid (hI.only (Only.of_below hg0))
 have HG0:=hid hg0
 have al2:bv<W0.heap.size:=by omega
 obtain ⟨hbB,u0',u1',u2,u3,K,cap,bk,ok,u4,hkl,hkm0,hK,hks⟩:=hN0.node
 have HKS:=hid (hks.below (hg0.mono (by omega)))
 have hsw:b<W0.heap.size:=by omega
 have hls:=Es.len_le_size es
 have hsz:=hN0.size
 have hkm:cap≤9223372036854775807:=by unfold maxLen at hkm0;omega
 have HN:Hid (LsInP W0 B (privS S w.heap.size) u P fn es K cap A env ecap):=lsOfQ hN0 (Only.of_below hg0) (hg0.mono (by omega)) (Nat.le_refl _) ⟨bk,ok,hK,hks⟩ hkl hkm0 (by show (10:Int)≠9;omega)
 have HSRC:=hid (keepC u4 hg0)
 have HU:=hid (And.intro (keepC u0' hg0) (And.intro (keepC u1' hg0) (And.intro (keepC u2 hg0) (keepC u3 hg0))))
 have HC:=hid hC
 have HW0:=hid hW0
 have HZ0:=hid hs0
 clear hI hst hks hS hN0 hC u0' u1' u2 u3 u4 hg0 hW0
 go_enter Tryz.func201,Tryz.ntmps201
 go_upto_region 1 with fail
 rw [←HW0.out]
 have hB0:B≤W0.heap.size:=by omega
 clear hs0
 go_wp2
 go_loopw [7,8] (fun o_ i wr=>∃ (j:Nat) (es':Es) (tss:List (List Term')) (g:Nat) (s' c':Int),i=.int .i64 (j:Int)∧Hid (o_.ownBlock=some g∧W0.heap.size≤g∧g<wr.heap.size)∧j+es'.len=es.len∧Hid (tss.length=j)∧Hid (es'.size≤es.size)∧Hid (∀ i,es'.get? i=es.get? (j+i))∧Hid (ExsAt wr B es' bk (ok+j*5)) ∧
  Hid (PRow wr W0.heap.size (privS S w.heap.size) u o_ tss)∧Hid (Cells wr bv 161 (hdQ u bp op++[.int .i64 s',.int .i64 c']))∧Hid (Only (fun q=>q=bv) W0 wr)∧Hid (MidP u P f R es' env tss s' c')) (fun _ i _=>es.len - (intOf i).toNat)
 case atStart=>
  have hg:Below W0.heap.size W0 (W0.alloc (.cells #[] 86)):=by go_grown
  refine ⟨0,es,[],W0.heap.size,s,c0,by go_num,⟨rfl,Nat.le_refl _,by simp⟩,by omega,rfl,Nat.le_refl _,fun i=>by rw [Nat.zero_add], ?_,PRow.start W0 (privS S w.heap.size) u,HST.out.next hg,Only.of_below hg,HM0.out⟩
  show ExsAt _ _ _ _ _;rw [Nat.zero_mul,Nat.add_zero];exact HKS.out.below (hg.mono (by omega))
 case round=>
  obtain ⟨j,es',tss,g,s',c',rfl,hG,hj,htl,hsz2,hget,HE,HR,HS,HO,HM⟩:=hrel
  have src':wr.cell? ⟨b,o+4,none⟩=some (.slice K es.len cap):=(HO.out.cell (a:=⟨b,o+4,none⟩) hsw (show ¬ b=bv by omega)).trans HSRC.out
  have hbfr:b<wr.heap.size:=by have:=HO.out.size;omega
  cases es' with
  | nil=>
   simp only [Es.len] at hj
   obtain rfl:j=es.len:=by omega
   have hp12:=HC.out.p12
   obtain ⟨Av,cp,rfl,e1,e2,e3⟩:=HR.out.env (fun q hq=>HSI.out.lt q hq)
   rw [htl.out] at e1
   have htl2:=htl.out
   rw [htl2]
   have HRES:=hid HM.out.end_
   have HNOW:Hid (c'=0→∃ t1:Nat,s'=t1∧t1≤3000∧3001≤t1+f):=fun h=>by
    obtain ⟨t1,h1,h2,h3,_⟩:=HM.out.1 h
    exact ⟨t1,h1,h2,h3⟩
   have HNZ:Hid (∀ e,R=.err e→e≠0):=fun e h=>by
    have hg:=pvAll_good (pv_good (u:=u) (P:=P) f) es env t
    rw [←HR0.out,h] at hg
    exact hg
   have hIr:=HI.out.only HO.out
   obtain ⟨bP,oP,pcap,KF,cF,hbp,v0,hbP,v2,hcF,hmF,hKo,hpcap⟩:=fnAt hIr.prog HC.out.fn
   have c0':wr.cell? ⟨bv,0,none⟩=some (ptr bp op):=by rw [HS.out.cell];rfl
   have clr:=HS.out.lt
   have hbnb:b≠bv:=by omega
   have y0:wr.cell? ⟨b,o,none⟩=some (.int .i64 10):=(HO.out.cell (a:=⟨b,_,none⟩) hsw hbnb).trans HU.out.1
   have y1:wr.cell? ⟨b,o+1,none⟩=some (.int .i64 m):=(HO.out.cell (a:=⟨b,_,none⟩) hsw hbnb).trans HU.out.2.1
   have y2:wr.cell? ⟨b,o+2,none⟩=some (.int .i64 pi):=(HO.out.cell (a:=⟨b,_,none⟩) hsw hbnb).trans HU.out.2.2.1
   have y3:wr.cell? ⟨b,o+3,none⟩=some (.int .i64 xc):=(HO.out.cell (a:=⟨b,_,none⟩) hsw hbnb).trans HU.out.2.2.2
   have hml:m<P.length:=(List.getElem?_eq_some_iff.1 HC.out.fn).1
   have hml2:(m:Int)<(P.length:Int):=by omega
   have hpl:pi<fg.outs.len:=Es.get?_lt HC.out.out
   have hpl2:(pi:Int)<(fg.outs.len:Int):=by omega
   have HE3:=hid e3
   have HKO:=hid hKo
   have HIR:=hid hIr
   have HV2:=hid v2
   have HEE:=hid (And.intro e1 e2)
   have he1:es.len≤cp:=e1
   have hcpp:cp≤9223372036854775807:=by unfold maxLen at e2;omega
   have HTL:=hid htl2
   clear hIr hKo v2 e1 e2 e3 HM HR HE hget hsz2 hj htl2
   go_wp2_with fail
   go_quiet (fail)
   rename Nat=>nq
   have hd:Only (fun q=>q=bv) wr (wr.drewN nq):=(Only.refl _ wr).drewN nq
   have HD:=hid hd
   have HS2:Hid (Cells (wr.drewN nq) bv 161 (hdQ u bp op++[.int .i64 s',.int .i64 c'])):=HS.out.drewN nq
   have w0:(wr.drewN nq).cell? ⟨b,o,none⟩=some (.int .i64 10):=y0
   have w2':(wr.drewN nq).cell? ⟨b,o+2,none⟩=some (.int .i64 pi):=y2
   have w3:(wr.drewN nq).cell? ⟨b,o+3,none⟩=some (.int .i64 xc):=y3
   have w4:(wr.drewN nq).cell? ⟨bP,oP+m*3+2,none⟩=some (.slice KF fg.outs.len cF):=HV2.out
   have wl:wr.heap.size≤(wr.drewN nq).heap.size:=hd.size
   have HOW:=hid (HO.out.trans hd)
   clear y0 y1 y2 y3 c0' v0 hd src'
   generalize wr.drewN nq=W at *
   obtain ⟨by_,oy,hKF,hEy⟩:=(HKO.out.below (only_below HD.out hB clr)).get HC.out.out
   subst hKF
   have hYF:=HC.out.each pi y HC.out.out
   have hIW:=HIR.out.only HD.out
   have hbW:b<W.heap.size:=by omega
   have hbPW:bP<W.heap.size:=by omega
   have HCALL:Hid (Calls Tryz.prog 123 #[.pointer (some ⟨bv,0,none⟩),ptr by_ (oy+pi*5),.slice Av es.len cp] W.drew fun e w5=>∃ A4 n4 cp4,e=.returned (.agg #[.int .i64 u,.slice A4 n4 cp4])∧BoxEnd S bv u 161 (hdQ u bp op) rr w.heap.size w w5 A4 n4 cp4∧Only (fun q=>q=bv) W w5):=by
    have hd2:Only (fun q=>q=bv) W W.drew:=(Only.refl _ W).drewN 1
    have hz:=HIH.out y tss s' s'.toNat c' m by_ (oy+pi*5) B (privS S w.heap.size) bv Av cp bp op W.drew (hIW.only hd2) ((HSI.out.mono HOW.out.size).mono hd2.size) (HS2.out.drewN 1) (fun h=>by
     obtain ⟨t1,h1,h2,h3⟩:∃ t1:Nat,s'=t1∧t1≤3000∧3001≤t1+f:=HNOW.out h
     subst h1
     simp only [Int.toNat_natCast]
     exact ⟨trivial,h2,h3⟩) ⟨hEy.below (only_below hd2 hB (by omega)),(HE3.out.only (HD.out.sub fun q e=>by rw [e];exact HSI.out.bv)).only ((Only.refl _ W).drewN 1),by rw [HTL.out];exact HEE.out.1,HEE.out.2,by rw [HTL.out];have:=HC.out.p12;omega,by omega,by rw [HTL.out];exact hYF.1,by omega,by omega⟩
    rw [HTL.out] at hz
    refine Calls.mono hz fun e w5 h=>?_
    have hq:pvC u P f c' y tss s'.toNat=rr:=by
     rw [HRR.out,←HR0.out]
     by_cases hc1:c'=0
     ·obtain ⟨t1,h1,_,_⟩:=HNOW.out hc1
      have hr:=HRES.out
      unfold pvC
      rw [if_pos hc1]
      subst h1
      simp only [Int.toNat_natCast]
      revert hr
      cases R with
      | err e=>intro hr;exact absurd (hc1.symm.trans hr).symm (HNZ.out e rfl)
      | ok z0 t0=>rintro ⟨rfl,h3,_⟩;have:t0=t1:=by omega
                  subst this;rfl
     ·have hr:=HRES.out
      unfold pvC
      rw [if_neg hc1]
      revert hr
      cases R with
      | err e=>intro hr;exact congrArg _ hr
      | ok z0 t0=>rintro ⟨_,_,h3⟩;exact absurd h3 hc1
    obtain ⟨v,ts3,s3,c3',rfl,⟨A4,cp4,rfl,hp3,hk3⟩,hS3,hO3,hres3⟩:=h
    rw [hq] at hres3
    have hO5:=hd2.trans hO3
    exact ⟨A4,ts3.length,cp4,rfl,boxEnd hp3 hk3 hS3 (((Only.of_below HG0.out).trans HOW.out).trans hO5) hres3 (Nat.le_refl _) al (only_cells (only_cells HQ.out HOW.out (by omega)) hO5 (by omega)),hO5⟩
   have HKP2:Hid (∀ w',Only (fun q=>q=bv) W w'→w'.cell? ⟨bP,oP+m*3+2,none⟩=some (.slice (some ⟨by_,oy,none⟩) fg.outs.len cF)∧w'.cell? ⟨b,o+2,none⟩=some (.int .i64 pi)):=fun w' ho=>⟨(ho.cell (a:=⟨bP,_,none⟩) hbPW (show ¬ bP=bv by omega)).trans w4,(ho.cell (a:=⟨b,_,none⟩) hbW hbnb).trans w2'⟩
   have HWD:Hid (Only (fun q=>q=bv) W W.drew):=(Only.refl _ W).drewN 1
   clear hEy hYF hIW
   go_wp2_with fail
   refine RegE.start (S:=fun wx=>wx.cell? ⟨bP,oP+m*3+2,none⟩=some (.slice (some ⟨by_,oy,none⟩) fg.outs.len cF)∧wx.cell? ⟨b,o+2,none⟩=some (.int .i64 pi)) 12 (by kernel_rfl) (by kernel_rfl) ?Sk0 (fun hHeld hB=>?_)
   case Sk0=>((try dsimp only);exact HKP2.out _ HWD.out)
   refine RegE.takeL (S:=fun wx=>wx.cell? ⟨bP,oP+m*3+2,none⟩=some (.slice (some ⟨by_,oy,none⟩) fg.outs.len cF)∧wx.cell? ⟨b,o+2,none⟩=some (.int .i64 pi)) (i:=0) (v:=?vk0) hB rfl (by decide) (by kernel_rfl) (by kernel_rfl) (fun _ _ _ h=>h) (Or.inl ⟨by rfl, ?yk0⟩) hHeld ?rk0
   case yk0=>((intro w hSw;(try dsimp only at hSw);go_simp)<;>with_reducible rfl)
   (try simp only [Act.put,List.setIfInBounds_toArray,List.set_cons_zero,List.set_cons_succ])
   refine RegE.takeL (S:=fun wx=>wx.cell? ⟨bP,oP+m*3+2,none⟩=some (.slice (some ⟨by_,oy,none⟩) fg.outs.len cF)∧wx.cell? ⟨b,o+2,none⟩=some (.int .i64 pi)) (i:=1) (v:=?vk1) hB rfl (by decide) (by kernel_rfl) (by kernel_rfl) (fun _ _ _ h=>h) (Or.inl ⟨by rfl, ?yk1⟩) hHeld ?rk1
   case yk1=>((intro w hSw;(try dsimp only at hSw);go_simp)<;>with_reducible rfl)
   (try simp only [Act.put,List.setIfInBounds_toArray,List.set_cons_zero,List.set_cons_succ])
   refine RegE.takeL (S:=fun wx=>wx.cell? ⟨bP,oP+m*3+2,none⟩=some (.slice (some ⟨by_,oy,none⟩) fg.outs.len cF)∧wx.cell? ⟨b,o+2,none⟩=some (.int .i64 pi)) (i:=2) (v:=?vk2) hB rfl (by decide) (by kernel_rfl) (by kernel_rfl) (fun _ _ _ h=>h) (Or.inl ⟨by rfl, ?yk2⟩) hHeld ?rk2
   case yk2=>((intro w hSw;(try dsimp only at hSw);go_simp)<;>with_reducible rfl)
   (try simp only [Act.put,List.setIfInBounds_toArray,List.set_cons_zero,List.set_cons_succ])
   refine RegE.takeL (S:=fun wx=>wx.cell? ⟨bP,oP+m*3+2,none⟩=some (.slice (some ⟨by_,oy,none⟩) fg.outs.len cF)∧wx.cell? ⟨b,o+2,none⟩=some (.int .i64 pi)) (i:=3) (v:=?vk3) hB rfl (by decide) (by kernel_rfl) (by kernel_rfl) (fun _ _ _ h=>h) (Or.inl ⟨by rfl, ?yk3⟩) hHeld ?rk3
   case yk3=>((intro w hSw;(try dsimp only at hSw);go_simp)<;>with_reducible rfl)
   (try simp only [Act.put,List.setIfInBounds_toArray,List.set_cons_zero,List.set_cons_succ])
   refine RegE.takeL (S:=fun wx=>wx.cell? ⟨bP,oP+m*3+2,none⟩=some (.slice (some ⟨by_,oy,none⟩) fg.outs.len cF)∧wx.cell? ⟨b,o+2,none⟩=some (.int .i64 pi)) (i:=4) (v:=?vk4) hB rfl (by decide) (by kernel_rfl) (by kernel_rfl) (fun _ _ _ h=>h) (Or.inl ⟨by rfl, ?yk4⟩) hHeld ?rk4
   case yk4=>((intro w hSw;(try dsimp only at hSw);go_simp)<;>with_reducible rfl)
   (try simp only [Act.put,List.setIfInBounds_toArray,List.set_cons_zero,List.set_cons_succ])
   refine RegE.takeL (S:=fun wx=>wx.cell? ⟨bP,oP+m*3+2,none⟩=some (.slice (some ⟨by_,oy,none⟩) fg.outs.len cF)∧wx.cell? ⟨b,o+2,none⟩=some (.int .i64 pi)) (i:=5) (v:=?vk5) hB rfl (by decide) (by kernel_rfl) (by kernel_rfl) (fun _ _ _ h=>h) (Or.inl ⟨by rfl, ?yk5⟩) hHeld ?rk5
   case yk5=>((intro w hSw;(try dsimp only at hSw);go_simp)<;>with_reducible rfl)
   (try simp only [Act.put,List.setIfInBounds_toArray,List.set_cons_zero,List.set_cons_succ])
   refine RegE.takeL (S:=fun wx=>wx.cell? ⟨bP,oP+m*3+2,none⟩=some (.slice (some ⟨by_,oy,none⟩) fg.outs.len cF)∧wx.cell? ⟨b,o+2,none⟩=some (.int .i64 pi)) (i:=6) (v:=?vk6) hB rfl (by decide) (by kernel_rfl) (by kernel_rfl) (fun _ _ _ h=>h) (Or.inl ⟨by rfl, ?yk6⟩) hHeld ?rk6
   case yk6=>((intro w hSw;(try dsimp only at hSw);go_simp)<;>with_reducible rfl)
   (try simp only [Act.put,List.setIfInBounds_toArray,List.set_cons_zero,List.set_cons_succ])
   refine RegE.takeL (S:=fun wx=>wx.cell? ⟨bP,oP+m*3+2,none⟩=some (.slice (some ⟨by_,oy,none⟩) fg.outs.len cF)∧wx.cell? ⟨b,o+2,none⟩=some (.int .i64 pi)) (i:=7) (v:=?vk7) hB rfl (by decide) (by kernel_rfl) (by kernel_rfl) (fun _ _ _ h=>h) (Or.inl ⟨by rfl, ?yk7⟩) hHeld ?rk7
   case yk7=>((intro w hSw;(try dsimp only at hSw);go_simp)<;>with_reducible rfl)
   (try simp only [Act.put,List.setIfInBounds_toArray,List.set_cons_zero,List.set_cons_succ])
   refine RegE.takeL (S:=fun wx=>wx.cell? ⟨bP,oP+m*3+2,none⟩=some (.slice (some ⟨by_,oy,none⟩) fg.outs.len cF)∧wx.cell? ⟨b,o+2,none⟩=some (.int .i64 pi)) (i:=8) (v:=?vk8) hB rfl (by decide) (by kernel_rfl) (by kernel_rfl) (fun _ _ _ h=>h) (Or.inl ⟨by rfl, ?yk8⟩) hHeld ?rk8
   case yk8=>((intro w hSw;(try dsimp only at hSw);go_simp)<;>with_reducible rfl)
   (try simp only [Act.put,List.setIfInBounds_toArray,List.set_cons_zero,List.set_cons_succ])
   refine RegE.takeL (S:=fun wx=>wx.cell? ⟨bP,oP+m*3+2,none⟩=some (.slice (some ⟨by_,oy,none⟩) fg.outs.len cF)∧wx.cell? ⟨b,o+2,none⟩=some (.int .i64 pi)) (i:=9) (v:=?vk9) hB rfl (by decide) (by kernel_rfl) (by kernel_rfl) (fun _ _ _ h=>h) (Or.inl ⟨by rfl, ?yk9⟩) hHeld ?rk9
   case yk9=>((intro w hSw;(try dsimp only at hSw);go_simp)<;>with_reducible rfl)
   (try simp only [Act.put,List.setIfInBounds_toArray,List.set_cons_zero,List.set_cons_succ])
   refine RegE.takeL (S:=fun wx=>wx.cell? ⟨bP,oP+m*3+2,none⟩=some (.slice (some ⟨by_,oy,none⟩) fg.outs.len cF)∧wx.cell? ⟨b,o+2,none⟩=some (.int .i64 pi)) (i:=10) (v:=?vk10) hB rfl (by decide) (by kernel_rfl) (by kernel_rfl) (fun _ _ _ h=>h) (Or.inl ⟨by rfl, ?yk10⟩) hHeld ?rk10
   case yk10=>((intro w hSw;(try dsimp only at hSw);go_simp)<;>with_reducible rfl)
   (try simp only [Act.put,List.setIfInBounds_toArray,List.set_cons_zero,List.set_cons_succ])
   refine RegE.stepL (i:=11) rfl (by decide) (by kernel_rfl) (fun K hK=>?_)
   go_simp
   go_at_call 123
   refine HCALL.out.mono ?_
   rintro e w5 ⟨A4,n4,cp4,rfl,hE,hO5⟩
   refine hK.out _ _ ?Sk11 (fun hHeldN=>?_)
   case Sk11=>((try dsimp only);exact HKP2.out _ hO5)
   clear hK K hHeld
   have hHeld:=hHeldN
   clear hHeldN
   (try simp only [Act.put,List.setIfInBounds_toArray,List.set_cons_zero,List.set_cons_succ])
   obtain ⟨⟨c0,c1,q0',q1'⟩,⟨y0,y1⟩,HE2⟩:=hE
   refine RegE.lastL rfl (by kernel_rfl) (by kernel_rfl) (fun K hK=>?_)
   go_simp
   refine hK.out _ _ ?_
   clear hK K
   have HE4:=hid HE2
   clear HE2 hO5
   go_wp2
   refine bodyPost_ret (v:=poV u A4 n4 cp4) (by simp [results,Tryz.results201,go_sem,y0,y1]) rfl ?_
   exact HE4.out
  | cons kk m' p' c1 ks' r=>
   simp only [Es.len] at hj
   have hK:=hK (by omega)
   subst hK
   obtain ⟨hel,hr⟩:=HE.out
   have HRE:=hid hr
   have hget0:es.get? j=some ⟨kk,m',p',c1,ks'⟩:=by have:=hget.out 0;rw [Nat.add_zero] at this;rw [←this];rfl
   have hgetr:Hid (∀ i,r.get? i=es.get? (j+1+i)):=fun i=>by have:=hget.out (i+1);rw [show j+1+i=j+(i+1) by omega,←this];rfl
   have hrs:Hid (r.size≤es.size):=by have:=hsz2.out;simp only [Es.size] at this;show _≤_;omega
   have hoS:Only (privS S w.heap.size) W0 wr:=HO.out.sub fun q e=>by rw [e];exact HSI.out.bv
   have HNK:Hid (SdInP wr B (privS (privS S w.heap.size) g) u P fn ⟨kk,m',p',c1,ks'⟩ bk (ok+j*5) A env ecap):=⟨hel,HN.out.envA.fresh hoS hG.out.2.1,HN.out.el,HN.out.em,by have:=HN.out.big;have:=Es.get?_depth hget0;show env.length+ks'.depth≤1000000;simp only at this;omega,by have:=HN.out.size;have:=Es.get?_size hget0;show ks'.size≤400;simp only at this;omega,HN.out.form j _ hget0,HN.out.f0,HN.out.f1⟩
   have HSI2:=hid (HSI.out.fresh HO.out.size hG.out.2.1 hG.out.2.2 (by omega))
   have hjl:(j:Int)<(es.len:Int):=by omega
   clear hr hget0 hel HE hget hsz2 hoS
   go_wp2_with fail
   refine (HIH.out ⟨kk,m',p',c1,ks'⟩ env s' s'.toNat c' fn bk (ok+j*5) B (privS (privS S w.heap.size) g) bv A ecap bp op wr (HI.out.only HO.out) HSI2.out HS.out HM.out.now HNK.out).mono ?_;rintro e w1 ⟨v,ts,s2,cc2,rfl,⟨Az,cz,rfl,hpz,hkz⟩,hS1,hO1,hres⟩
   have HR1:=hid (HR.out.only HSI.out.bv al2 hO1)
   have HM1:=hid (HM.out.step hres)
   have HO1:=hid (HO.out.trans hO1)
   have HE1:Hid (ExsAt w1 B r bk (ok+(j+1)*5)):=by
    have:=HRE.out.below (only_below hO1 hB (by have:=HO.out.size;omega))
    rwa [show ok+j*5+5=ok+(j+1)*5 by omega] at this
   have HS1:=hid hS1
   have HPZ:=hid (And.intro hpz hkz)
   have hs12:=hO1.size
   obtain ⟨ps,hG1,hps,hoks,hkp⟩:=HR1.out
   have hpl:ps.length=j:=by have:=congrArg List.length hps;rw [List.length_map,htl.out] at this;exact this
   have HG1:=hid hG1
   have HKP:=hid hkp
   have HOKS:=hid hoks
   have HPS:=hid hps
   have hw1:W0.heap.size≤w1.heap.size:=HO1.out.size
   clear hpz hkz hS1 hO1 hres hG1 hps hoks hkp HR HM HO HS HRE HNK src'
   obtain ⟨W1',hW1'⟩:∃ W,W=w1.alloc (.cells (poD u (ts,Az,cz)).toArray 86):=⟨_,rfl⟩
   have hb2:Below w1.heap.size w1 W1':=by rw [hW1'];go_grown
   have hC2:Cells W1' w1.heap.size 86 (poD u (ts,Az,cz)):=by rw [hW1'];exact Cells.new _ _ _
   have HOW:=hid (HG1.out.below hb2).own
   have HB2:=hid hb2
   have HC2:=hid hC2
   have HW1':=hid hW1'
   clear hb2 hC2 hW1'
   go_wp2_with (at_builtin;change wpList _ _ _ _ _ (w1.alloc (.cells (poD u (ts,Az,cz)).toArray 86));rw [←HW1'.out];refine wpList_append_own_at _ rfl _ _ 162 rfl W0.heap.size 86 i0 (.agg #[.int .i64 0,.slice none 0 0]) 2 32 Tryz.underlying162 hi hz0 hz1 hz2 rfl (by decide) _ _ _ rfl HOW.out ⟨w1.heap.size,0,none⟩ 1 1 (poD u (ts,Az,cz)) rfl rfl ?c1 ?c2 ?c3 ?c4 ?c5 ?_)
   case c1=>intro q z hz;rw [addr_add,Nat.zero_add];exact (HC2.out.cell q).trans hz
   case c2=>intro z hz;simp only [poD,List.mem_cons,List.not_mem_nil,or_false] at hz;rcases hz with rfl | rfl<;>rfl
   case c3=>simp only [List.length_map];unfold maxLen;omega
   case c4=>simp only [List.length_map];omega
   case c5=>have:=HB2.out.size;omega
   intro v2 w2 hown0 hg2 _ hat
   have hown:w2.ownsRow W0.heap.size 86 2 v2 ((ps.map (poEl (privS S w.heap.size) u)).length+1) ((ps.map (poEl (privS S w.heap.size) u)).flatMap (·.1)++poD u (ts,Az,cz)):=by
    rw [List.length_map,hpl]
    exact hown0
   have hgl:=(HG1.out.lt hG.out.1)
   obtain ⟨hp2,hbl⟩:=PRow.push (p:=(ts,Az,cz)) HG1.out (by rw [HPS.out];exact HOKS.out) HKP.out hG.out.1 (Below.refl _ _) HPZ.out.1 HPZ.out.2 HB2.out hown hg2 hat
   rw [HPS.out] at hp2
   have hg3:∃ g3,v2.ownBlock=some g3∧W0.heap.size≤g3∧g3<w2.heap.size:=by
    have hs2:=hg2.size
    have hs1:=HB2.out.size
    rcases hat with e | e
    ·exact ⟨g,e.trans hG.out.1,hgl.1,by omega⟩
    ·exact ⟨W1'.heap.size,e,by omega,(World.ownsRow.lt hown _ e).2⟩
   obtain ⟨g3,hg3⟩:=hg3
   have HG3:=hid hg3
   have HP2:=hid hp2
   have HS2:Hid (Cells w2 bv 161 (hdQ u bp op++[.int .i64 s2,.int .i64 cc2])):=(hbl.block bv al2).trans HS1.out
   have HO2:Hid (Only (fun q=>q=bv) W0 w2):=⟨hbl.os.trans HO1.out.os,hbl.tape.trans HO1.out.tape,hbl.output.trans HO1.out.output,Nat.le_trans HO1.out.size hbl.size,fun q hq hn=>(hbl.block q hq).trans (HO1.out.block q hq hn)⟩
   have HE2:Hid (ExsAt w2 B r bk (ok+(j+1)*5)):=HE1.out.below (hbl.mono (by omega))
   have htl2:Hid ((tss++[ts]).length=j+1):=by show _=_;rw [List.length_append,htl.out];rfl
   clear hown hown0 hg2 hat hp2 hbl hg3 HG1 HKP HOKS HPS HOW HC2 HB2 HPZ hgl HW1'
   go_wp2
   go_roundw
   case rel=>exact ⟨j+1,r,tss++[ts],g3,s2,cc2,by go_num,HG3,by omega,htl2,hrs,hgetr,HE2,HP2,HS2,HO2,HM1⟩
   case measure=>simp [intOf];omega
end
section
open Go.RowKit Plain
theorem LoopP.step2 {u:Int} {P:List Fn} {f:Nat} {outs:Es} {R:Res (List (List Term'))} {q:Nat} {zs zs':List (List Term')} {s s' c c':Int} (h:LoopP u P f outs R (q+1) zs s c) (hr:ResIs (pvAC u P f c outs zs s.toNat) zs' s' c'):LoopP u P f outs R q zs' s' c':=by
 by_cases hc:c=0
 ·subst hc
  exact h.step hr
 ·unfold pvAC at hr
  rw [if_neg hc] at hr
  have:c'=c:=hr
  subst this
  exact ⟨fun h0=>absurd h0 hc,fun _=>h.2 hc⟩
theorem loopEndQ {w wr:World} {S:Nat→Prop} {bv cp pi q f g0:Nat} {u:Int} {t:TypeId} {hd:List Value} {A':Option Addr} {zs:List (List Term')} {ts:List Term'} {s' c':Int} {P:List Fn} {outs:Es} {R:Res (List (List Term'))} {rr:Res (List Term')} (hO:Only (fun q=>q=bv) w wr) (hS:Cells wr bv t (hd++[.int .i64 s',.int .i64 c'])) (hp:PAt wr (privS S g0) A' ts) (hok:polyOk u ts=true) (hts:zs.getD pi []=ts)
  (hL:LoopP u P f outs R q zs s' c') (hq:c'=0→q=0) (hrr:rr=pickP pi R) (al:bv<w.heap.size) (hg0:w.heap.size≤g0) (hb:Cells wr g0 86 [.int .i64 0,.slice none 0 0]):BoxEnd S bv u t hd rr g0 w wr A' ts.length cp:=by
 refine boxEnd hp hok hS hO ?_ hg0 al hb
 by_cases hc:c'=0
 ·obtain ⟨t1,rfl,_,_,h3⟩:=hL.1 hc
  rw [hq hc] at h3
  simp only [pvLoop] at h3
  rw [hrr,h3]
  exact ⟨hts.symm,rfl,hc⟩
 ·rw [hrr,hL.2 hc];rfl
theorem callQ11 (P:List Fn) (u:Int) (f:Nat) (IH:ExprQ P u f) (m pi:Nat) (C:Nat) (es:Es) (fg:Fn) (y:Nd) (env:List (List Term')) (t:Nat) (fn:Int) (b o B:Nat) (S:Nat→Prop) (bv:Nat) (A:Option Addr) (ecap bp op:Nat) (w:World) (hI:SvIn w B bv 1 P bp op) (hS:SIn w B S bv u) (hst:Cells w bv 161 (hdQ u bp op++[.int .i64 t,.int .i64 0])) (ht:t≤3000) (htf:3001≤t+f) (hN0:SdInP w B S u P fn ⟨11,m,pi,(C:Int),es⟩ b o A env ecap) (hC:CallIn P m pi (C:Int) es 11 fg y) :
  Calls Tryz.prog 201 #[.pointer (some ⟨bv,0,none⟩),ptr b o,.slice A env.length ecap] w (PPost S bv u 161 (hdQ u bp op) (callR (fun zs s1=>pickP pi (pvLoop (pv u P f) fg.outs C zs s1)) (pvAll (pv u P f) env es t)) w):=by
 obtain ⟨i0,hi,hz0,hz1,hz2⟩:=info_parts Tryz.infoPo
 have HIH:=hid IH
 obtain ⟨rr,hrr⟩:∃ rr:Res (List Term'),rr=callR (fun zs s1=>pickP pi (pvLoop (pv u P f) fg.outs C zs s1)) (pvAll (pv u P f) env es t):=⟨_,rfl⟩
 rw [←hrr]
 have HRR:=hid hrr
 obtain ⟨s,hs⟩:∃ s:Int,s=t:=⟨_,rfl⟩
 rw [←hs] at hst
 obtain ⟨c0,hc0⟩:∃ c0:Int,c0=0:=⟨_,rfl⟩
 rw [←hc0] at hst
 obtain ⟨R,hR⟩:∃ R,R=pvAC u P f c0 es env t:=⟨_,rfl⟩
 have HM0:Hid (MidP u P f R es env [] s c0):=by rw [hR];exact MidP.start fun _=>⟨hs,ht,htf⟩
 have HR0:Hid (R=pvAll (pv u P f) env es t):=by show _=_;rw [hR];unfold pvAC;rw [if_pos hc0]
 clear hR hs hc0 hrr IH
 have al:=hI.lt
 have hB:=hI.blow
 have u0:=hS.u0
 have u1:=hS.u1
 obtain ⟨W0,hW0⟩:∃ W0,W0=w.alloc (.cells #[.int .i64 0,.slice none 0 0] 86):=⟨_,rfl⟩
 have hg0:Below w.heap.size w W0:=by rw [hW0];go_grown
 have hs0:W0.heap.size=w.heap.size+1:=by rw [hW0];simp
 have HQ:Hid (Cells W0 w.heap.size 86 [.int .i64 0,.slice none 0 0]):=by show Cells _ _ _ _;rw [hW0];exact Cells.new w _ _
 have HST:=hid (hst.next hg0)
 have HSI:=hid (hS.fresh (wa:=W0) (g:=w.heap.size) (by omega) (Nat.le_refl _) (by omega) (by omega))
 have HI:=hid (hI.only (Only.of_below hg0))
 have HG0:=hid hg0
 have al2:bv<W0.heap.size:=by omega
 obtain ⟨hbB,u0',u1',u2,u3,K,cap,bk,ok,u4,hkl,hkm0,hK,hks⟩:=hN0.node
 have HKS:=hid (hks.below (hg0.mono (by omega)))
 have hsw:b<W0.heap.size:=by omega
 have hls:=Es.len_le_size es
 have hsz:=hN0.size
 have hkm:cap≤9223372036854775807:=by unfold maxLen at hkm0;omega
 have HN:Hid (LsInP W0 B (privS S w.heap.size) u P fn es K cap A env ecap):=lsOfQ hN0 (Only.of_below hg0) (hg0.mono (by omega)) (Nat.le_refl _) ⟨bk,ok,hK,hks⟩ hkl hkm0 (by show (11:Int)≠9;omega)
 have HSRC:=hid (keepC u4 hg0)
 have HU:=hid (And.intro (keepC u0' hg0) (And.intro (keepC u1' hg0) (And.intro (keepC u2 hg0) (keepC u3 hg0))))
 have HC:=hid hC
 have HW0:=hid hW0
 have HZ0:=hid hs0
 clear hI hst hks hS hN0 hC u0' u1' u2 u3 u4 hg0 hW0
 go_enter Tryz.func201,Tryz.ntmps201
 go_upto_region 1 with fail
 rw [←HW0.out]
 have hB0:B≤W0.heap.size:=by omega
 clear hs0
 go_wp2
 go_loopw [7,8] (fun o_ i wr=>∃ (j:Nat) (es':Es) (tss:List (List Term')) (g:Nat) (s' c':Int),i=.int .i64 (j:Int)∧Hid (o_.ownBlock=some g∧W0.heap.size≤g∧g<wr.heap.size)∧j+es'.len=es.len∧Hid (tss.length=j)∧Hid (es'.size≤es.size)∧Hid (∀ i,es'.get? i=es.get? (j+i))∧Hid (ExsAt wr B es' bk (ok+j*5)) ∧
  Hid (PRow wr W0.heap.size (privS S w.heap.size) u o_ tss)∧Hid (Cells wr bv 161 (hdQ u bp op++[.int .i64 s',.int .i64 c']))∧Hid (Only (fun q=>q=bv) W0 wr)∧Hid (MidP u P f R es' env tss s' c')) (fun _ i _=>es.len - (intOf i).toNat)
 case atStart=>
  have hg:Below W0.heap.size W0 (W0.alloc (.cells #[] 86)):=by go_grown
  refine ⟨0,es,[],W0.heap.size,s,c0,by go_num,⟨rfl,Nat.le_refl _,by simp⟩,by omega,rfl,Nat.le_refl _,fun i=>by rw [Nat.zero_add], ?_,PRow.start W0 (privS S w.heap.size) u,HST.out.next hg,Only.of_below hg,HM0.out⟩
  show ExsAt _ _ _ _ _;rw [Nat.zero_mul,Nat.add_zero];exact HKS.out.below (hg.mono (by omega))
 case round=>
  obtain ⟨j,es',tss,g,s',c',rfl,hG,hj,htl,hsz2,hget,HE,HR,HS,HO,HM⟩:=hrel
  have src':wr.cell? ⟨b,o+4,none⟩=some (.slice K es.len cap):=(HO.out.cell (a:=⟨b,o+4,none⟩) hsw (show ¬ b=bv by omega)).trans HSRC.out
  have hbfr:b<wr.heap.size:=by have:=HO.out.size;omega
  cases es' with
  | nil=>
   simp only [Es.len] at hj
   obtain rfl:j=es.len:=by omega
   have hp12:=HC.out.p12
   obtain ⟨Av,cp,rfl,e1,e2,e3⟩:=HR.out.env (fun q hq=>HSI.out.lt q hq)
   rw [htl.out] at e1
   have htl2:=htl.out
   rw [htl2]
   have HRES:=hid HM.out.end_
   have HNOW:Hid (c'=0→∃ t1:Nat,s'=t1∧t1≤3000∧3001≤t1+f):=fun h=>by
    obtain ⟨t1,h1,h2,h3,_⟩:=HM.out.1 h
    exact ⟨t1,h1,h2,h3⟩
   have HNZ:Hid (∀ e,R=.err e→e≠0):=fun e h=>by
    have hg:=pvAll_good (pv_good (u:=u) (P:=P) f) es env t
    rw [←HR0.out,h] at hg
    exact hg
   have hIr:=HI.out.only HO.out
   obtain ⟨bP,oP,pcap,KF,cF,hbp,v0,hbP,v2,hcF,hmF,hKo,hpcap⟩:=fnAt hIr.prog HC.out.fn
   have c0':wr.cell? ⟨bv,0,none⟩=some (ptr bp op):=by rw [HS.out.cell];rfl
   have clr:=HS.out.lt
   have hbnb:b≠bv:=by omega
   have y0:wr.cell? ⟨b,o,none⟩=some (.int .i64 11):=(HO.out.cell (a:=⟨b,_,none⟩) hsw hbnb).trans HU.out.1
   have y1:wr.cell? ⟨b,o+1,none⟩=some (.int .i64 m):=(HO.out.cell (a:=⟨b,_,none⟩) hsw hbnb).trans HU.out.2.1
   have y2:wr.cell? ⟨b,o+2,none⟩=some (.int .i64 pi):=(HO.out.cell (a:=⟨b,_,none⟩) hsw hbnb).trans HU.out.2.2.1
   have y3:wr.cell? ⟨b,o+3,none⟩=some (.int .i64 (C:Int)):=(HO.out.cell (a:=⟨b,_,none⟩) hsw hbnb).trans HU.out.2.2.2
   have hml:m<P.length:=(List.getElem?_eq_some_iff.1 HC.out.fn).1
   have hml2:(m:Int)<(P.length:Int):=by omega
   have hpl:pi<fg.outs.len:=Es.get?_lt HC.out.out
   have hpl2:(pi:Int)<(fg.outs.len:Int):=by omega
   have HE3:=hid e3
   have HKO:=hid hKo
   have HIR:=hid hIr
   have HV2:=hid v2
   have HEE:=hid (And.intro e1 e2)
   have he1:es.len≤cp:=e1
   have hcpp:cp≤9223372036854775807:=by unfold maxLen at e2;omega
   have HTL:=hid htl2
   clear hIr hKo v2 e1 e2 e3 HM HR HE hget hsz2 hj htl2
   go_wp2_with fail
   go_quiet (fail)
   rename Nat=>nq
   have hd:Only (fun q=>q=bv) wr (wr.drewN nq):=(Only.refl _ wr).drewN nq
   have HD:=hid hd
   have HS2:Hid (Cells (wr.drewN nq) bv 161 (hdQ u bp op++[.int .i64 s',.int .i64 c'])):=HS.out.drewN nq
   have w0:(wr.drewN nq).cell? ⟨b,o,none⟩=some (.int .i64 11):=y0
   have w2':(wr.drewN nq).cell? ⟨b,o+2,none⟩=some (.int .i64 pi):=y2
   have w3:(wr.drewN nq).cell? ⟨b,o+3,none⟩=some (.int .i64 (C:Int)):=y3
   have w4:(wr.drewN nq).cell? ⟨bP,oP+m*3+2,none⟩=some (.slice KF fg.outs.len cF):=HV2.out
   have wl:wr.heap.size≤(wr.drewN nq).heap.size:=hd.size
   have HOW:=hid (HO.out.trans hd)
   clear y0 y1 y2 y3 c0' v0 hd src'
   generalize wr.drewN nq=W at *
   have hpi:pi<es.len:=by have:=(HC.out.loop rfl).2.2;omega
   have hpi2:(pi:Int)<(es.len:Int):=by omega
   have hC8:C≤8:=by have:=(HC.out.loop rfl).2.1;omega
   have hol:fg.outs.len=es.len:=(HC.out.loop rfl).2.2
   have HOL:=hid hol
   obtain ⟨R2,hR2⟩:∃ R2:Res (List (List Term')),R2=(match R with | .err e=>.err e | .ok zs s1=>pvLoop (pv u P f) fg.outs C zs s1):=⟨_,rfl⟩
   have HRW:Hid (rr=pickP pi R2):=by
    show _=_
    rw [HRR.out,←HR0.out,hR2]
    cases R<;>rfl
   have HLR:Hid (LoopP u P f fg.outs R2 (C - 0) tss s' c'):=by
    constructor
    ·intro hc1
     obtain ⟨t1,h1,h2,h3⟩:=HNOW.out hc1
     refine ⟨t1,h1,h2,h3, ?_⟩
     have hr:=HRES.out
     revert hr hR2
     cases R with
     | err e=>intro _ hr;exact absurd (hc1.symm.trans hr).symm (HNZ.out e rfl)
     | ok z0 t0=>rintro hR2 ⟨rfl,h4,_⟩;have:t0=t1:=by omega
                 subst this;exact hR2
    ·intro hc1
     have hr:=HRES.out
     revert hr hR2
     cases R with
     | err e=>intro hR2 hr;rw [hR2];exact (congrArg _ hr).symm
     | ok z0 t0=>rintro _ ⟨_,_,h4⟩;exact absurd h4 hc1
   have HOUTS:=hid (outsQ_of P u f HIH.out)
   have HEW:=hid (HE3.out.only (HD.out.sub fun q e=>by rw [e];exact HSI.out.bv))
   have HIW:=hid (HIR.out.only HD.out)
   have HKW:=hid (HKO.out.below (only_below HD.out hB clr))
   have HW2:=hid w2'
   have HW3:=hid w3
   have HW4:=hid w4
   have hbW:b<W.heap.size:=by omega
   have hbPW:bP<W.heap.size:=by omega
   have HRB:=hid (only_cells HQ.out HOW.out (by omega))
   have HSIW:=hid (HSI.out.mono HOW.out.size)
   have hbvW:bv<W.heap.size:=HS2.out.lt
   have hgW:w.heap.size<W.heap.size:=HRB.out.lt
   clear hR2 hol HE3 HKO HIR
   go_wp2
   go_loopw [7,10] (fun kd i wz=>∃ (q:Nat) (A1:Option Addr) (cp:Nat) (zs:List (List Term')) (s' c':Int),i=.int .i64 (q:Int)∧kd=.slice A1 es.len cp∧q≤C∧es.len≤cp∧cp≤maxLen∧Hid (zs.length=es.len)∧Hid (PEnv wz (privS S w.heap.size) u A1 zs)∧Hid (Cells wz bv 161 (hdQ u bp op++[.int .i64 s',.int .i64 c']))∧Hid (Only (fun q=>q=bv) W wz) ∧
    Hid (LoopP u P f fg.outs R2 (C - q) zs s' c')) (fun _ i _=>C - (intOf i).toNat)
   case atStart=>exact ⟨0,Av,cp,tss,s',c',by go_num,rfl,Nat.zero_le _,he1,HEE.out.2,HTL,HEW,HS2,Only.refl _ _,HLR⟩
   case round=>
    clear HS HS2 HEW HLR htl HRES HNOW w0 w2' w3 w4 hcpp he1 HEE HTL
    obtain ⟨q,A1,cp,zs,s',c',rfl,rfl,hq,hcp,hcm,HL,HE,HS1,HO3,HLR⟩:=hrel
    have hcpp:cp≤9223372036854775807:=by unfold maxLen at hcm;omega
    have w2':wr.cell? ⟨b,o+2,none⟩=some (.int .i64 pi):=(HO3.out.cell (a:=⟨b,_,none⟩) hbW hbnb).trans HW2.out
    have w3:wr.cell? ⟨b,o+3,none⟩=some (.int .i64 C):=(HO3.out.cell (a:=⟨b,_,none⟩) hbW hbnb).trans HW3.out
    have hclr:bv<wr.heap.size:=HS1.out.lt
    have hbr2:b<wr.heap.size:=by have:=HO3.out.size;omega
    by_cases hlt:q<C
    ·have hltI:(q:Int)<(C:Int):=by omega
     have g4:wr.cell? ⟨bP,oP+m*3+2,none⟩=some (.slice KF fg.outs.len cF):=(HO3.out.cell (a:=⟨bP,_,none⟩) hbPW (show ¬ bP=bv by omega)).trans HW4.out
     have hls:LsInP wr B (privS S w.heap.size) u P m fg.outs KF cF A1 zs cp:=⟨HKW.out.below (only_below HO3.out hB hbvW),hcF,hmF,HE.out,by rw [HL.out];exact hcp,hcm,by rw [HL.out];have:=HC.out.p12;have:=HC.out.dep;omega,HC.out.size,fun j z hz=>by rw [HL.out];exact (HC.out.each j z hz).1,by omega,by omega⟩
     have hcall:=HOUTS.out fg.outs zs s' s'.toNat c' m KF cF bP (oP+m*3) B (privS S w.heap.size) bv A1 cp bp op wr (HIW.out.only HO3.out) (HSIW.out.mono HO3.out.size) HS1.out HLR.out.now hls g4 hbP
     rw [HL.out,HOL.out] at hcall
     have HCALL:=hid hcall
     have HLR1:Hid (LoopP u P f fg.outs R2 (C - (q+1)+1) zs s' c'):=by have:=HLR.out;rwa [show C - q=C - (q+1)+1 by omega] at this
     clear hcall hls HLR HE g4
     go_wp2_with fail
     refine HCALL.out.mono ?_;rintro e w2 ⟨A3,cp3,zs3,s3,c3',rfl,hl3,hcp3,hcm3,hE3,hS3,hO4,hres3⟩
     have HO5:Hid (Only (fun q=>q=bv) W w2):=HO3.out.trans hO4
     have HL5:=hid hl3
     have HE5:=hid hE3
     have HS5:=hid hS3
     have HLR5:=hid (HLR1.out.step2 hres3)
     clear hl3 hE3 hS3 hO4 hres3 HS1 HO3 HCALL HL HLR1 w2' w3
     go_wp2
     go_roundw
     case rel=>exact ⟨q+1,A3,cp3,zs3,s3,c3',by go_num,rfl,by omega,hcp3,hcm3,HL5,HE5,HS5,HO5,HLR5⟩
     case measure=>simp [intOf];omega
    ·obtain rfl:q=C:=by omega
     obtain ⟨ts,hts⟩:∃ ts,zs[pi]? = some ts:=⟨zs[pi]'(by rw [HL.out];exact hpi),List.getElem?_eq_getElem _⟩
     have htd:zs.getD pi []=ts:=by simp [List.getD,hts]
     obtain ⟨b1,o1,Az,cz,rfl,hb1,d0,d1,hPz,hoz⟩:=HE.out.get hts
     have hD:=loopEndQ (cp:=cz) (((Only.of_below HG0.out).trans HOW.out).trans HO3.out) HS1.out hPz hoz htd HLR.out (fun _=>by omega) HRW.out al (Nat.le_refl _) (only_cells HRB.out HO3.out (by omega))
     obtain ⟨⟨k0,k1,q0,q1⟩,⟨y0,y1⟩,HE2⟩:=hD
     have HE3:=hid HE2
     clear HE2 hts htd hPz hoz
     go_wp2
     refine bodyPost_ret (v:=poV u Az ts.length cz) (by simp [results,Tryz.results201,go_sem,y0,y1]) rfl ?_
     exact HE3.out
  | cons kk m' p' c1 ks' r=>
   simp only [Es.len] at hj
   have hK:=hK (by omega)
   subst hK
   obtain ⟨hel,hr⟩:=HE.out
   have HRE:=hid hr
   have hget0:es.get? j=some ⟨kk,m',p',c1,ks'⟩:=by have:=hget.out 0;rw [Nat.add_zero] at this;rw [←this];rfl
   have hgetr:Hid (∀ i,r.get? i=es.get? (j+1+i)):=fun i=>by have:=hget.out (i+1);rw [show j+1+i=j+(i+1) by omega,←this];rfl
   have hrs:Hid (r.size≤es.size):=by have:=hsz2.out;simp only [Es.size] at this;show _≤_;omega
   have hoS:Only (privS S w.heap.size) W0 wr:=HO.out.sub fun q e=>by rw [e];exact HSI.out.bv
   have HNK:Hid (SdInP wr B (privS (privS S w.heap.size) g) u P fn ⟨kk,m',p',c1,ks'⟩ bk (ok+j*5) A env ecap):=⟨hel,HN.out.envA.fresh hoS hG.out.2.1,HN.out.el,HN.out.em,by have:=HN.out.big;have:=Es.get?_depth hget0;show env.length+ks'.depth≤1000000;simp only at this;omega,by have:=HN.out.size;have:=Es.get?_size hget0;show ks'.size≤400;simp only at this;omega,HN.out.form j _ hget0,HN.out.f0,HN.out.f1⟩
   have HSI2:=hid (HSI.out.fresh HO.out.size hG.out.2.1 hG.out.2.2 (by omega))
   have hjl:(j:Int)<(es.len:Int):=by omega
   clear hr hget0 hel HE hget hsz2 hoS
   go_wp2_with fail
   refine (HIH.out ⟨kk,m',p',c1,ks'⟩ env s' s'.toNat c' fn bk (ok+j*5) B (privS (privS S w.heap.size) g) bv A ecap bp op wr (HI.out.only HO.out) HSI2.out HS.out HM.out.now HNK.out).mono ?_;rintro e w1 ⟨v,ts,s2,cc2,rfl,⟨Az,cz,rfl,hpz,hkz⟩,hS1,hO1,hres⟩
   have HR1:=hid (HR.out.only HSI.out.bv al2 hO1)
   have HM1:=hid (HM.out.step hres)
   have HO1:=hid (HO.out.trans hO1)
   have HE1:Hid (ExsAt w1 B r bk (ok+(j+1)*5)):=by
    have:=HRE.out.below (only_below hO1 hB (by have:=HO.out.size;omega))
    rwa [show ok+j*5+5=ok+(j+1)*5 by omega] at this
   have HS1:=hid hS1
   have HPZ:=hid (And.intro hpz hkz)
   have hs12:=hO1.size
   obtain ⟨ps,hG1,hps,hoks,hkp⟩:=HR1.out
   have hpl:ps.length=j:=by have:=congrArg List.length hps;rw [List.length_map,htl.out] at this;exact this
   have HG1:=hid hG1
   have HKP:=hid hkp
   have HOKS:=hid hoks
   have HPS:=hid hps
   have hw1:W0.heap.size≤w1.heap.size:=HO1.out.size
   clear hpz hkz hS1 hO1 hres hG1 hps hoks hkp HR HM HO HS HRE HNK src'
   obtain ⟨W1',hW1'⟩:∃ W,W=w1.alloc (.cells (poD u (ts,Az,cz)).toArray 86):=⟨_,rfl⟩
   have hb2:Below w1.heap.size w1 W1':=by rw [hW1'];go_grown
   have hC2:Cells W1' w1.heap.size 86 (poD u (ts,Az,cz)):=by rw [hW1'];exact Cells.new _ _ _
   have HOW:=hid (HG1.out.below hb2).own
   have HB2:=hid hb2
   have HC2:=hid hC2
   have HW1':=hid hW1'
   clear hb2 hC2 hW1'
   go_wp2_with (at_builtin;change wpList _ _ _ _ _ (w1.alloc (.cells (poD u (ts,Az,cz)).toArray 86));rw [←HW1'.out];refine wpList_append_own_at _ rfl _ _ 162 rfl W0.heap.size 86 i0 (.agg #[.int .i64 0,.slice none 0 0]) 2 32 Tryz.underlying162 hi hz0 hz1 hz2 rfl (by decide) _ _ _ rfl HOW.out ⟨w1.heap.size,0,none⟩ 1 1 (poD u (ts,Az,cz)) rfl rfl ?c1 ?c2 ?c3 ?c4 ?c5 ?_)
   case c1=>intro q z hz;rw [addr_add,Nat.zero_add];exact (HC2.out.cell q).trans hz
   case c2=>intro z hz;simp only [poD,List.mem_cons,List.not_mem_nil,or_false] at hz;rcases hz with rfl | rfl<;>rfl
   case c3=>simp only [List.length_map];unfold maxLen;omega
   case c4=>simp only [List.length_map];omega
   case c5=>have:=HB2.out.size;omega
   intro v2 w2 hown0 hg2 _ hat
   have hown:w2.ownsRow W0.heap.size 86 2 v2 ((ps.map (poEl (privS S w.heap.size) u)).length+1) ((ps.map (poEl (privS S w.heap.size) u)).flatMap (·.1)++poD u (ts,Az,cz)):=by
    rw [List.length_map,hpl]
    exact hown0
   have hgl:=(HG1.out.lt hG.out.1)
   obtain ⟨hp2,hbl⟩:=PRow.push (p:=(ts,Az,cz)) HG1.out (by rw [HPS.out];exact HOKS.out) HKP.out hG.out.1 (Below.refl _ _) HPZ.out.1 HPZ.out.2 HB2.out hown hg2 hat
   rw [HPS.out] at hp2
   have hg3:∃ g3,v2.ownBlock=some g3∧W0.heap.size≤g3∧g3<w2.heap.size:=by
    have hs2:=hg2.size
    have hs1:=HB2.out.size
    rcases hat with e | e
    ·exact ⟨g,e.trans hG.out.1,hgl.1,by omega⟩
    ·exact ⟨W1'.heap.size,e,by omega,(World.ownsRow.lt hown _ e).2⟩
   obtain ⟨g3,hg3⟩:=hg3
   have HG3:=hid hg3
   have HP2:=hid hp2
   have HS2:Hid (Cells w2 bv 161 (hdQ u bp op++[.int .i64 s2,.int .i64 cc2])):=(hbl.block bv al2).trans HS1.out
   have HO2:Hid (Only (fun q=>q=bv) W0 w2):=⟨hbl.os.trans HO1.out.os,hbl.tape.trans HO1.out.tape,hbl.output.trans HO1.out.output,Nat.le_trans HO1.out.size hbl.size,fun q hq hn=>(hbl.block q hq).trans (HO1.out.block q hq hn)⟩
   have HE2:Hid (ExsAt w2 B r bk (ok+(j+1)*5)):=HE1.out.below (hbl.mono (by omega))
   have htl2:Hid ((tss++[ts]).length=j+1):=by show _=_;rw [List.length_append,htl.out];rfl
   clear hown hown0 hg2 hat hp2 hbl hg3 HG1 HKP HOKS HPS HOW HC2 HB2 HPZ hgl HW1'
   go_wp2
   go_roundw
   case rel=>exact ⟨j+1,r,tss++[ts],g3,s2,cc2,by go_num,HG3,by omega,htl2,hrs,hgetr,HE2,HP2,HS2,HO2,HM1⟩
   case measure=>simp [intOf];omega
theorem exprQ_call10 (P:List Fn) (m pi:Nat) (xc:Int) (ks:Es) (u:Int) (f:Nat) (IH:ExprQ P u f) (env:List (List Term')) (t:Nat) (fn:Int) (b o B:Nat) (S:Nat→Prop) (bv:Nat) (A:Option Addr) (ecap bp op:Nat) (w:World) (hI:SvIn w B bv 1 P bp op) (hS:SIn w B S bv u) (hst:Cells w bv 161 (hdQ u bp op++[.int .i64 t,.int .i64 0])) (hN:SdInP w B S u P fn ⟨10,m,pi,xc,ks⟩ b o A env ecap) (hs:t<3000) (hf:3001≤t+(f+1)) (fg:Fn) (y:Nd) (hC:CallIn P m pi xc ks 10 fg y) :
  Calls Tryz.prog 123 #[.pointer (some ⟨bv,0,none⟩),ptr b o,.slice A env.length ecap] w (PPost S bv u 161 (hdQ u bp op) (pv u P (f+1) ⟨10,m,pi,xc,ks⟩ env t) w):=by
 have HEV:Hid (pv u P (f+1) ⟨10,m,pi,xc,ks⟩ env t=callR (fun zs s1=>pv u P f y zs s1) (pvAll (pv u P f) env ks (t+1))):=by
  show _=_
  rw [pv,if_neg (by omega),if_neg (by show ¬ (10:Int)=1;omega),if_neg (by show ¬ (10:Int)=2;omega),if_neg (by show ¬ (10:Int)=8;omega),if_neg (by show ¬ (10:Int)=9;omega)]
  cases pvAll (pv u P f) env ks (t+1) with
  | err e=>rfl
  | ok zs s1=>simp only;rw [if_pos trivial,show P[(m:Int).toNat]? = some fg from hC.fn];simp only [Int.toNat_natCast,hC.out];rfl
 obtain ⟨rr,hrr⟩:∃ rr,rr=pv u P (f+1) ⟨10,m,pi,xc,ks⟩ env t:=⟨_,rfl⟩
 rw [←hrr]
 have HRR:=hid (hrr.trans HEV.out)
 clear HEV hrr
 have al:=hI.lt
 have hB:=hI.blow
 have u0:=hS.u0
 have u1:=hS.u1
 have hQ:=qvStep hI hS hst
 obtain ⟨W0,hW0⟩:∃ W0,W0=w.alloc (.cells #[.int .i64 0,.slice none 0 0] 86):=⟨_,rfl⟩
 obtain ⟨W1,hW1⟩:∃ W1,W1=W0.setCell ⟨bv,2,none⟩ (.int .i64 ((t:Int)+1)):=⟨_,rfl⟩
 rw [←hW0,←hW1] at hQ
 have hg0:Below w.heap.size w W0:=by rw [hW0];go_grown
 have hS0:=hst.next hg0
 have hW0l:bv<W0.heap.size:=hS0.lt
 have a2:W0.cell? ⟨bv,2,none⟩=some (.int .i64 t):=by rw [hS0.cell];rfl
 have a3:W0.cell? ⟨bv,3,none⟩=some (.int .i64 0):=by rw [hS0.cell];rfl
 have z2:W0.frozen? ⟨bv,2,none⟩=false:=hS0.frozen _
 have e1:((t:Int)==3000)=false:=by simp;omega
 obtain ⟨K,cap,bk,ok,hbB,k0,k1,k2,k3,k4,hcap,hlc,hK,hkid⟩:=hN.parts
 have hbw:b<w.heap.size:=by omega
 have hbn:b≠bv:=by omega
 have j0:W1.cell? ⟨b,o,none⟩=some (.int .i64 10):=(hQ.only.cell (a:=⟨b,_,none⟩) hbw hbn).trans k0
 have j1:W1.cell? ⟨b,o+1,none⟩=some (.int .i64 m):=(hQ.only.cell (a:=⟨b,_,none⟩) hbw hbn).trans k1
 have j4:W1.cell? ⟨b,o+4,none⟩=some (.slice K ks.len cap):=(hQ.only.cell (a:=⟨b,_,none⟩) hbw hbn).trans k4
 have hbW:b<W1.heap.size:=by have:=hQ.only.size;omega
 have HW0:=hid hW0
 have HW1:=hid hW1
 have HQ:=hid hQ
 have HKID:=hid hkid
 have HBR:=hid (callQ10 P u f IH m pi xc ks fg y env (t+1) fn b o B (privS S w.heap.size) bv A ecap bp op W1 hQ.ev hQ.si hQ.st (by omega) (by omega) (hN.self (hQ.only.sub fun q e=>by rw [e];exact hS.bv) (only_below hQ.only hB al) (Nat.le_refl _)) hC)
 rw [←HRR.out] at HBR
 clear hN IH hC
 clear hI hst hW0 hW1 hQ hg0 hS0 hkid k0 k1 k2 k3 k4
 go_enter Tryz.func123,Tryz.ntmps123
 go_upto_region 1 with fail
 rw [←HW0.out]
 go_upto_region 6 with fail
 rw [←HW1.out]
 go_wp2_with fail
 refine HBR.out.mono ?_;rintro e w3 ⟨v,ts3,s3,c3,rfl,⟨A3,cp3,rfl,hp3,hk3⟩,hS3,hO3,hres3⟩
 have hE:BoxEnd S bv u 161 (hdQ u bp op) rr w.heap.size w w3 A3 ts3.length cp3:=boxEnd hp3 hk3 hS3 (HQ.out.only.trans hO3) hres3 (Nat.le_refl _) al (only_cells HQ.out.rb hO3 (by omega))
 clear hp3 hk3 hS3 hO3 hres3 HBR
 obtain ⟨⟨c0,c1,q0,q1⟩,⟨y0,y1⟩,HE2⟩:=hE
 have HE3:=hid HE2
 clear HE2
 go_wp2
 refine bodyPost_ret (v:=poV u A3 ts3.length cp3) (by simp [results,Tryz.results123,go_sem,y0,y1]) rfl ?_
 exact HE3.out
theorem exprQ_call11 (P:List Fn) (m pi:Nat) (C:Nat) (ks:Es) (u:Int) (f:Nat) (IH:ExprQ P u f) (env:List (List Term')) (t:Nat) (fn:Int) (b o B:Nat) (S:Nat→Prop) (bv:Nat) (A:Option Addr) (ecap bp op:Nat) (w:World) (hI:SvIn w B bv 1 P bp op) (hS:SIn w B S bv u) (hst:Cells w bv 161 (hdQ u bp op++[.int .i64 t,.int .i64 0])) (hN:SdInP w B S u P fn ⟨11,m,pi,C,ks⟩ b o A env ecap) (hs:t<3000) (hf:3001≤t+(f+1)) (fg:Fn) (y:Nd) (hC:CallIn P m pi C ks 11 fg y) :
  Calls Tryz.prog 123 #[.pointer (some ⟨bv,0,none⟩),ptr b o,.slice A env.length ecap] w (PPost S bv u 161 (hdQ u bp op) (pv u P (f+1) ⟨11,m,pi,C,ks⟩ env t) w):=by
 have HEV:Hid (pv u P (f+1) ⟨11,m,pi,C,ks⟩ env t=callR (fun zs s1=>pickP pi (pvLoop (pv u P f) fg.outs C zs s1)) (pvAll (pv u P f) env ks (t+1))):=by
  show _=_
  rw [pv,if_neg (by omega),if_neg (by show ¬ (11:Int)=1;omega),if_neg (by show ¬ (11:Int)=2;omega),if_neg (by show ¬ (11:Int)=8;omega),if_neg (by show ¬ (11:Int)=9;omega)]
  cases pvAll (pv u P f) env ks (t+1) with
  | err e=>rfl
  | ok zs s1=>simp only;rw [if_neg (by omega),if_pos trivial,show P[(m:Int).toNat]? = some fg from hC.fn];simp only [Int.toNat_natCast,callR];cases pvLoop (pv u P f) fg.outs C zs s1<;>rfl
 obtain ⟨rr,hrr⟩:∃ rr,rr=pv u P (f+1) ⟨11,m,pi,C,ks⟩ env t:=⟨_,rfl⟩
 rw [←hrr]
 have HRR:=hid (hrr.trans HEV.out)
 clear HEV hrr
 have al:=hI.lt
 have hB:=hI.blow
 have u0:=hS.u0
 have u1:=hS.u1
 have hQ:=qvStep hI hS hst
 obtain ⟨W0,hW0⟩:∃ W0,W0=w.alloc (.cells #[.int .i64 0,.slice none 0 0] 86):=⟨_,rfl⟩
 obtain ⟨W1,hW1⟩:∃ W1,W1=W0.setCell ⟨bv,2,none⟩ (.int .i64 ((t:Int)+1)):=⟨_,rfl⟩
 rw [←hW0,←hW1] at hQ
 have hg0:Below w.heap.size w W0:=by rw [hW0];go_grown
 have hS0:=hst.next hg0
 have hW0l:bv<W0.heap.size:=hS0.lt
 have a2:W0.cell? ⟨bv,2,none⟩=some (.int .i64 t):=by rw [hS0.cell];rfl
 have a3:W0.cell? ⟨bv,3,none⟩=some (.int .i64 0):=by rw [hS0.cell];rfl
 have z2:W0.frozen? ⟨bv,2,none⟩=false:=hS0.frozen _
 have e1:((t:Int)==3000)=false:=by simp;omega
 obtain ⟨K,cap,bk,ok,hbB,k0,k1,k2,k3,k4,hcap,hlc,hK,hkid⟩:=hN.parts
 have hbw:b<w.heap.size:=by omega
 have hbn:b≠bv:=by omega
 have j0:W1.cell? ⟨b,o,none⟩=some (.int .i64 11):=(hQ.only.cell (a:=⟨b,_,none⟩) hbw hbn).trans k0
 have j1:W1.cell? ⟨b,o+1,none⟩=some (.int .i64 m):=(hQ.only.cell (a:=⟨b,_,none⟩) hbw hbn).trans k1
 have j4:W1.cell? ⟨b,o+4,none⟩=some (.slice K ks.len cap):=(hQ.only.cell (a:=⟨b,_,none⟩) hbw hbn).trans k4
 have hbW:b<W1.heap.size:=by have:=hQ.only.size;omega
 have HW0:=hid hW0
 have HW1:=hid hW1
 have HQ:=hid hQ
 have HKID:=hid hkid
 have HBR:=hid (callQ11 P u f IH m pi C ks fg y env (t+1) fn b o B (privS S w.heap.size) bv A ecap bp op W1 hQ.ev hQ.si hQ.st (by omega) (by omega) (hN.self (hQ.only.sub fun q e=>by rw [e];exact hS.bv) (only_below hQ.only hB al) (Nat.le_refl _)) hC)
 rw [←HRR.out] at HBR
 clear hN IH hC
 clear hI hst hW0 hW1 hQ hg0 hS0 hkid k0 k1 k2 k3 k4
 go_enter Tryz.func123,Tryz.ntmps123
 go_upto_region 1 with fail
 rw [←HW0.out]
 go_upto_region 6 with fail
 rw [←HW1.out]
 go_wp2_with fail
 refine HBR.out.mono ?_;rintro e w3 ⟨v,ts3,s3,c3,rfl,⟨A3,cp3,rfl,hp3,hk3⟩,hS3,hO3,hres3⟩
 have hE:BoxEnd S bv u 161 (hdQ u bp op) rr w.heap.size w w3 A3 ts3.length cp3:=boxEnd hp3 hk3 hS3 (HQ.out.only.trans hO3) hres3 (Nat.le_refl _) al (only_cells HQ.out.rb hO3 (by omega))
 clear hp3 hk3 hS3 hO3 hres3 HBR
 obtain ⟨⟨c0,c1,q0,q1⟩,⟨y0,y1⟩,HE2⟩:=hE
 have HE3:=hid HE2
 clear HE2
 go_wp2
 refine bodyPost_ret (v:=poV u A3 ts3.length cp3) (by simp [results,Tryz.results123,go_sem,y0,y1]) rfl ?_
 exact HE3.out
theorem exprQ_any (P:List Fn) (u:Int):∀ f:Nat,ExprQ P u f:=by
 intro f
 induction f with
 | zero=>
  intro x env s t c0 fn b o B S bv A ecap bp op w hI hS hst hf hN
  have hc:c0≠0:=fun h=>by have:=hf h;omega
  unfold pvC
  rw [if_neg hc]
  exact exprQ_dead u env s c0 b o B S bv A ecap bp op w hS hst hc
 | succ f IH=>
  intro x env s t c0 fn b o B S bv A ecap bp op w hI hS hst hf hN
  by_cases hc:c0=0
  ·obtain ⟨rfl,ht,hft⟩:=hf hc
   subst hc
   unfold pvC
   rw [if_pos rfl]
   by_cases hs:t<3000
   ·have hk:=formed_kinds hN.form
    have hform:=hN.form
    obtain ⟨xk,xn,xp,xc,xks⟩:=x
    simp only at hk hform hN ⊢
    by_cases k1:xk=1
    ·subst k1
     have h1:=hform
     unfold formed at h1
     rw [Bool.and_eq_true] at h1
     simp only at h1
     rw [nodeOk_leaf1] at h1
     simp only [Bool.and_eq_true] at h1
     have hb:=inR_true.1 h1.1.2.2
     have hv:=exprQ_num P ⟨1,xn,xp,xc,xks⟩ u env t fn b o B S bv A ecap bp op w hI hS hst hN hs rfl hb.1 hb.2
     rw [pv,if_neg (by omega),if_pos rfl]
     exact hv
    by_cases k2:xk=2
    ·subst k2
     have h1:=hform
     unfold formed at h1
     rw [Bool.and_eq_true] at h1
     simp only at h1
     rw [nodeOk_leaf2] at h1
     simp only [Bool.and_eq_true] at h1
     have hb:=inR_true.1 h1.1.2.2
     obtain ⟨j,rfl⟩:=Int.eq_ofNat_of_zero_le hb.1
     have hj:j<env.length:=by omega
     have hv:=exprQ_var P ⟨2,j,xp,xc,xks⟩ u env t fn b o B S bv A ecap bp op w hI hS hst hN hs j env[j] rfl rfl (List.getElem?_eq_getElem hj)
     rw [pv,if_neg (by omega),if_neg (by show ¬ (2:Int)=1;omega),if_pos rfl]
     have e:env.getD (j:Int).toNat []=env[j]:=by simp [List.getD,hj]
     simp only
     rw [e]
     exact hv
    by_cases k8:xk=8
    ·exact exprQ_if P _ u f IH env t fn b o B S bv A ecap bp op w hI hS hst hN hs hft k8
    by_cases k9:xk=9
    ·exact exprQ_let P _ u f IH env t fn b o B S bv A ecap bp op w hI hS hst hN hs hft k9
    by_cases k7:xk=7
    ·exact exprQ_neg P _ u f IH env t fn b o B S bv A ecap bp op w hI hS hst hN hs hft k7
    by_cases k36:xk=3∨xk=4∨xk=5∨xk=6
    ·exact exprQ_bin P _ u f IH env t fn b o B S bv A ecap bp op w hI hS hst hN hs hft k36
    obtain ⟨m,pi,g,y,hn,hp,_,hC⟩:=callIn hI.ok hform (by omega) hN.f1
    subst hn hp
    by_cases k10:xk=10
    ·subst k10
     exact exprQ_call10 P m pi xc xks u f IH env t fn b o B S bv A ecap bp op w hI hS hst hN hs hft g y hC
    ·obtain rfl:xk=11:=by omega
     obtain ⟨C,rfl⟩:=Int.eq_ofNat_of_zero_le (hC.loop rfl).1
     exact exprQ_call11 P m pi C xks u f IH env t fn b o B S bv A ecap bp op w hI hS hst hN hs hft g y hC
   ·obtain rfl:t=3000:=by omega
    rw [pv,if_pos (by omega)]
    exact exprQ_full u env b o B S bv A ecap bp op w hS hst
  ·unfold pvC
   rw [if_neg hc]
   exact exprQ_dead u env s c0 b o B S bv A ecap bp op w hS hst hc
end
end Go.Proofs.YtgfkglhelfkpoaaGreat
