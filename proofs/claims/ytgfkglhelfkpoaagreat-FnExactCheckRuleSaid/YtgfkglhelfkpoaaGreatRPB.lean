/- Texts put together: WPv7, WPv8, WPv9, WPv10, WPv11. -/
import Derived.Test.YtgfkglhelfkpoaaGreatRPA
import Derived.Test.YtgfkglhelfkpoaaGreatRSU
import Derived.Test.YtgfkglhelfkpoaaGreatRI
import Derived.Test.YtgfkglhelfkpoaaGreatRJ
set_option maxRecDepth 100000
set_option maxHeartbeats 4000000
open Go.Lib (hid)
namespace Go.Proofs.YtgfkglhelfkpoaaGreat
section
open Go.RowKit Plain
theorem Tryz.infoPo:(Tryz.prog.info? 86).map (fun i=>(i.zero,i.size,i.bytes))=some (some (.agg #[.int .i64 0,.slice none 0 0]),2,32):=by kernel_rfl
abbrev PoQ:=List Term'×Option Addr×Nat
def poD (u:Int) (p:PoQ):List Value:=[.int .i64 u,.slice p.2.1 p.1.length p.2.2]
abbrev poEl (S:Nat→Prop) (u:Int) (p:PoQ):List Value×(World→Prop):=(poD u p,fun w=>PAt w S p.2.1 p.1)
theorem PAt.move {w w2:World} {S:Nat→Prop} {A:Option Addr} {ts:List Term'} {g g2:Nat} (h:PAt w (privS S g) A ts) (ho:OnlyH (fun q=>q=g) w w2) (hg:g2=g∨w.heap.size≤g2):PAt w2 (privS S g2) A ts:=fun w3 h3=>
 h w3 ⟨Nat.le_trans ho.size h3.size,fun q hq hn=>(h3.block q (Nat.lt_of_lt_of_le hq ho.size) (fun e=>e.elim (fun e=>hn (.inl e)) (fun e=>(by
  rcases hg with hg | hg
  ·exact hn (.inr (e.trans hg))
  ·omega)))).trans (ho.block q hq (fun e=>hn (.inr e)))⟩
def PRow (w:World) (B:Nat) (S:Nat→Prop) (u:Int) (v:Value) (tss:List (List Term')):Prop:=∃ ps:List PoQ,GRow w B 86 2 v (ps.map (poEl S u))∧ps.map (·.1)=tss∧(∀ ts∈tss,polyOk u ts=true)∧∀ p∈ps,∀ g,(v.ownBlock=some g∨w.heap.size≤g)→PAt w (privS S g) p.2.1 p.1
theorem PRow.start (w:World) (S:Nat→Prop) (u:Int):PRow (w.alloc (.cells #[] 86)) w.heap.size S u (.slice (some ⟨w.heap.size,0,none⟩) 0 0) []:=⟨[],GRow.start w _ _,rfl,fun ts h=>by simp at h,fun p h=>by simp at h⟩
theorem PAt.outl {w:World} {S:Nat→Prop} {A:Option Addr} {ts:List Term'} {g:Nat} (h:PAt w (privS S g) A ts):Outl (fun w=>PAt w S A ts) w g:=fun w' h1 h2 w2 h3=>
 h w2 ((⟨h1,fun q hq hn=>h2 q hq fun e=>hn (.inr e)⟩:OnlyH (privS S g) w w').trans (h3.sub fun _q e=>.inl e))
theorem PRow.push {w w1 w1' w2:World} {B:Nat} {S:Nat→Prop} {u:Int} {v v2:Value} {ps:List PoQ} {p:PoQ} {g:Nat} (h:GRow w B 86 2 v (ps.map (poEl S u))) (hok:∀ ts∈ps.map (·.1),polyOk u ts=true) (hkp:∀ p∈ps,∀ g,(v.ownBlock=some g∨w.heap.size≤g)→PAt w (privS S g) p.2.1 p.1) (hv:v.ownBlock=some g) (hb:Below w.heap.size w w1) (hp:PAt w1 (privS S g) p.2.1 p.1) (hpo:polyOk u p.1=true) (hb1:Below w1.heap.size w1 w1')
  (hown:w2.ownsRow B 86 2 v2 ((ps.map (poEl S u)).length+1) ((ps.map (poEl S u)).flatMap (·.1)++poD u p)) (hg:w1'.grownBy w2 v.ownBlock) (hat:v2.ownBlock=v.ownBlock∨v2.ownBlock=some w1'.heap.size) :
  PRow w2 B S u v2 (ps.map (·.1)++[p.1])∧Below B w w2:=by
 obtain ⟨q1,q2⟩:=GRow.push (el:=poEl S u p) h hb (by rfl) (fun g' hgg=>by
  rcases hgg with e | e
  ·rw [hv] at e;injection e with e;subst e;exact hp.outl
  ·exact ((hp.sub (S:=S) fun q e=>.inl e).fresh e).outl) hb1 hown hg hat
 have hrow:=World.ownsRow.lt h.own g hv
 have s1:=hb.size
 have s2:=hb1.size
 have hoo:OnlyH (fun q=>q=g) w1' w2:=⟨hg.size,fun q hq hn=>hg.block q hq (by rw [hv];intro e;injection e with e;exact hn e)⟩
 refine ⟨⟨ps++[p],by rw [List.map_append];exact q1,by rw [List.map_append];rfl,fun ts hts=>?_,fun p' hp' g2 hg2=>?_⟩,q2⟩
 ·rcases List.mem_append.1 hts with h' | h'
  ·exact hok ts h'
  ·rw [List.mem_singleton.1 h'];exact hpo
 ·have hgg:g2=g∨w1'.heap.size≤g2:=by
   rcases hg2 with e | e
   ·rcases hat with e2 | e2
    ·rw [e,hv] at e2;injection e2 with e2;exact .inl e2
    ·rw [e] at e2;injection e2 with e2;exact .inr (by omega)
   ·have:=hg.size;exact .inr (by omega)
  rcases List.mem_append.1 hp' with h' | h'
  ·exact PAt.move (((hkp p' h' g (.inl hv)).only (Only.of_below hb)).only (Only.of_below hb1)) hoo hgg
  ·rw [List.mem_singleton.1 h']
   exact PAt.move (hp.only (Only.of_below hb1)) hoo hgg
theorem PRow.only {w w':World} {B bv:Nat} {S:Nat→Prop} {u:Int} {v:Value} {tss:List (List Term')} (h:PRow w B S u v tss) (hS:S bv) (hb:bv<B) (ho:Only (fun q=>q=bv) w w'):PRow w' B S u v tss:=by
 obtain ⟨ps,h1,h2,h3,h4⟩:=h
 have h4':∀ p∈ps,∀ g,(v.ownBlock=some g∨w'.heap.size≤g)→PAt w' (privS S g) p.2.1 p.1:=fun p hp g hg=>(h4 p hp g (hg.imp id fun e=>Nat.le_trans ho.size e)).only (ho.sub fun q e=>.inl (e ▸ hS))
 refine ⟨ps,⟨ownsRow_keep5 h1.own fun g hg=>ho.block g (World.ownsRow.lt h1.own g hg).2 (by have:=(World.ownsRow.lt h1.own g hg).1;omega),Nat.le_trans h1.size ho.size,h1.one,fun el he g hg=>?_⟩,h2,h3,h4'⟩
 obtain ⟨p,hp,rfl⟩:=List.mem_map.1 he
 exact (h4' p hp g hg).outl
theorem PRow.env {w:World} {B:Nat} {S:Nat→Prop} {u:Int} {v:Value} {tss:List (List Term')} (h:PRow w B S u v tss) (hS:∀ q,S q→q<B):∃ A cap,v=.slice A tss.length cap∧tss.length≤cap∧cap≤maxLen∧PEnv w S u A tss:=by
 obtain ⟨ps,h1,rfl,hok,_⟩:=h
 obtain ⟨A,cap,rfl,hc,hm⟩:=h1.form
 simp only [List.length_map] at *
 refine ⟨A,cap,rfl,hc,hm,hok, ?_⟩
 by_cases h0:0<ps.length
 ·have h1':GRow w B 86 2 (.slice A (ps.map (poEl S u)).length cap) (ps.map (poEl S u)):=by rw [List.length_map];exact h1
  obtain ⟨b,rfl,hBb,hb,hel⟩:=h1'.read (by simpa using h0)
  refine ⟨b,0,fun j=>((ps.getD j ([],none,0)).2.1,(ps.getD j ([],none,0)).2.2),fun _=>rfl,fun w' ho _=>⟨Nat.lt_of_lt_of_le hb ho.size,fun j ts hj=>?_⟩⟩
  rw [List.getElem?_map] at hj
  obtain ⟨p,hp,rfl⟩:=Option.map_eq_some_iff.1 hj
  have hg:ps.getD j ([],none,0)=p:=by simp [List.getD,hp]
  simp only [hg]
  obtain ⟨hF,hcell⟩:=hel j (poEl S u p) (by rw [List.getElem?_map,hp];rfl)
  have hbk:w'.heap[b]? = w.heap[b]?:=ho.block b hb (fun e=>by have:=hS b e;omega)
  refine ⟨?_, ?_,hF w' ho⟩
  ·rw [Nat.zero_add,World.cell?_of_block (a:=⟨b,j*2,none⟩) hbk];exact (hcell 0 (by omega)).1
  ·rw [Nat.zero_add,World.cell?_of_block (a:=⟨b,j*2+1,none⟩) hbk];exact (hcell 1 (by omega)).1
 ·have:ps=[]:=List.length_eq_zero_iff.1 (by omega)
  subst this
  exact ⟨0,0,fun _=>(none,0),fun h=>absurd h (by simp),fun w' _ h=>absurd h (by simp)⟩
structure LsInP (w:World) (B:Nat) (S:Nat→Prop) (u:Int) (P:List Fn) (fn:Int) (es:Es) (K:Option Addr) (cap:Nat) (A:Option Addr) (env:List (List Term')) (ecap:Nat):Prop where
 kids:ExSl w B es K
 kl:es.len≤cap
 km:cap≤maxLen
 envA:PEnv w S u A env
 el:env.length≤ecap
 em:ecap≤maxLen
 big:env.length+es.depth≤1000000
 size:es.size≤400
 form:∀ j y,es.get? j=some y→formed P fn env.length y=true
 f0:0≤fn
 f1:fn≤P.length
def AllPC (P:List Fn) (u:Int) (f:Nat):Prop:=∀ (es:Es) (env:List (List Term')) (s:Int) (t:Nat) (c0 fn:Int) (K:Option Addr) (cap B:Nat) (S:Nat→Prop) (bv:Nat) (A PA:Option Addr) (ecap pcap:Nat) (w:World),EvIn w B bv 1 P PA pcap→SIn w B S bv u→Cells w bv 168 (hdP u P PA pcap++[.int .i64 s,.int .i64 c0])→(c0=0→s=(t:Int)∧t≤3000∧3001≤t+f) →
 LsInP w B S u P fn es K cap A env ecap →
 Calls Tryz.prog 109 #[.pointer (some ⟨bv,0,none⟩),.slice K es.len cap,.slice A env.length ecap] w (PsPost S bv u es.len 168 (hdP u P PA pcap) (pvAC u P f c0 es env t) w)
end
section
open Go.RowKit Plain
def MidP (u:Int) (P:List Fn) (f:Nat) (R:Res (List (List Term'))) (es':Es) (env zss:List (List Term')) (s' c':Int):Prop:=
 (c'=0→∃ t1:Nat,s'=t1∧t1≤3000∧3001≤t1+f∧R=(match pvAll (pv u P f) env es' t1 with | .err e=>.err e | .ok zs t2=>.ok (zss++zs) t2))∧(c'≠0→R=.err c')
theorem MidP.start {u:Int} {P:List Fn} {f:Nat} {c0 s:Int} {es:Es} {env:List (List Term')} {t:Nat} (h:c0=0→s=(t:Int)∧t≤3000∧3001≤t+f):MidP u P f (pvAC u P f c0 es env t) es env [] s c0:=by
 unfold pvAC
 constructor
 ·intro h0
  obtain ⟨h1,h2,h3⟩:=h h0
  refine ⟨t,h1,h2,h3, ?_⟩
  rw [if_pos h0]
  cases pvAll (pv u P f) env es t<;>rfl
 ·intro h0
  rw [if_neg h0]
theorem MidP.step {u:Int} {P:List Fn} {f:Nat} {R:Res (List (List Term'))} {k m p c:Int} {ks r:Es} {env zss:List (List Term')} {s c0:Int} {zs:List Term'} {s' c':Int} (h:MidP u P f R (.cons k m p c ks r) env zss s c0) (hr:ResIs (pvC u P f c0 ⟨k,m,p,c,ks⟩ env s.toNat) zs s' c'):MidP u P f R r env (zss++[zs]) s' c':=by
 constructor
 ·intro hc
  obtain ⟨h0,t1,rfl,h1,h2,h3⟩:=pvC_next hr hc
  obtain ⟨t0,rfl,a1,a2,a3⟩:=h.1 h0
  simp only [Int.toNat_natCast] at h1 h3
  refine ⟨t1,rfl,h2,by omega, ?_⟩
  rw [a3]
  simp only [pvAll]
  rw [h3]
  simp only
  cases pvAll (pv u P f) env r t1 with
  | err e=>rfl
  | ok z2 t2=>simp
 ·intro hc
  by_cases h0:c0=0
  ·obtain ⟨t0,rfl,a1,a2,a3⟩:=h.1 h0
   have hb:=pvC_bad hr hc h0
   simp only [Int.toNat_natCast] at hb
   rw [a3]
   simp only [pvAll]
   rw [hb]
  ·rw [h.2 h0]
   unfold pvC at hr
   rw [if_neg h0] at hr
   have:c'=c0:=hr
   rw [this]
theorem MidP.end_ {u:Int} {P:List Fn} {f:Nat} {R:Res (List (List Term'))} {env zss:List (List Term')} {s c:Int} (h:MidP u P f R .nil env zss s c):ResIs R zss s c:=by
 by_cases hc:c=0
 ·obtain ⟨t,rfl,_,_,h3⟩:=h.1 hc
  rw [h3]
  simp only [pvAll,List.append_nil]
  exact ⟨rfl,rfl,hc⟩
 ·rw [h.2 hc];rfl
theorem MidP.now {u:Int} {P:List Fn} {f:Nat} {R:Res (List (List Term'))} {es:Es} {env zss:List (List Term')} {s c:Int} (h:MidP u P f R es env zss s c):c=0→s=(s.toNat:Int)∧s.toNat≤3000∧3001≤s.toNat+f:=fun hc=>by
 obtain ⟨t,rfl,h1,h2,_⟩:=h.1 hc
 simp only [Int.toNat_natCast]
 exact ⟨trivial,h1,h2⟩
theorem SIn.mono {w wa:World} {B:Nat} {S:Nat→Prop} {bv:Nat} {u:Int} (h:SIn w B S bv u) (hs:w.heap.size≤wa.heap.size):SIn wa B S bv u:=⟨h.bv,fun q e=>Nat.lt_of_lt_of_le (h.lt q e) hs,h.ge,h.u0,h.u1⟩
theorem polyAll_of (P:List Fn) (u:Int) (f:Nat) (IH:PolyC P u f):AllPC P u f:=by
 intro es env s t c0 fn K cap B S bv A PA ecap pcap w hI hS hst hf hN
 obtain ⟨i0,hi,hz0,hz1,hz2⟩:=info_parts Tryz.infoPo
 have HIH:=hid IH;clear IH
 obtain ⟨R,hR⟩:∃ R,R=pvAC u P f c0 es env t:=⟨_,rfl⟩
 rw [←hR]
 have hM0:MidP u P f R es env [] s c0:=by rw [hR];exact MidP.start hf
 have HM0:=hid hM0
 clear hR hM0 hf
 have al:=hI.lt
 have hB:=hI.blow
 obtain ⟨bk,ok,hK,hks⟩:=hN.kids
 have HKS:=hid hks
 have hls:=Es.len_le_size es
 have hsz:=hN.size
 have hkl:=hN.kl
 have hkm:cap≤9223372036854775807:=by have:=hN.km;unfold maxLen at this;omega
 have HI:=hid hI
 have HSI:=hid hS
 have HN:=hid hN
 have HST:=hid hst
 clear hI hN hst hks hS
 go_enter Tryz.func109,Tryz.ntmps109
 go_wp2
 go_loopw [7,13] (fun o i wr=>∃ (j:Nat) (es':Es) (tss:List (List Term')) (g:Nat) (s' c':Int),i=.int .i64 (j:Int)∧Hid (o.ownBlock=some g∧w.heap.size≤g∧g<wr.heap.size)∧j+es'.len=es.len∧Hid (tss.length=j)∧Hid (es'.size≤es.size)∧Hid (∀ i,es'.get? i=es.get? (j+i))∧Hid (ExsAt wr B es' bk (ok+j*5)) ∧
  Hid (PRow wr w.heap.size S u o tss)∧Hid (Cells wr bv 168 (hdP u P PA pcap++[.int .i64 s',.int .i64 c']))∧Hid (Only (fun q=>q=bv) w wr)∧Hid (MidP u P f R es' env tss s' c')) (fun _ i _=>es.len - (intOf i).toNat)
 case atStart=>
  have hg:Below w.heap.size w (w.alloc (.cells #[] 86)):=by go_grown
  refine ⟨0,es,[],w.heap.size,s,c0,by go_num,⟨rfl,Nat.le_refl _,by simp⟩,by omega,rfl,Nat.le_refl _,fun i=>by rw [Nat.zero_add], ?_,PRow.start w S u,HST.out.next hg,Only.of_below hg,HM0.out⟩
  show ExsAt _ _ _ _ _;rw [Nat.zero_mul,Nat.add_zero];exact HKS.out.below (hg.mono (by omega))
 case round=>
  obtain ⟨j,es',tss,g,s',c',rfl,hG,hj,htl,hsz2,hget,HE,HR,HS,HO,HM⟩:=hrel
  cases es' with
  | nil=>
   simp only [Es.len] at hj
   obtain rfl:j=es.len:=by omega
   obtain ⟨Av,cp,rfl,q1,q2,q3⟩:=HR.out.env (fun q hq=>HSI.out.lt q hq)
   rw [htl.out] at q1
   have htl2:=htl.out
   have HP:Hid (PsPost S bv u es.len 168 (hdP u P PA pcap) R w (.returned (.slice Av es.len cp)) wr):=⟨Av,cp,tss,s',c',rfl,htl2,q1,q2,q3,HS.out,HO.out,HM.out.end_⟩
   rw [htl2]
   clear q1 q2 q3 htl2
   go_wp2
   go_ret
   exact HP.out
  | cons kk m' p' c1 ks' r=>
   simp only [Es.len] at hj
   have hK:=hK (by omega)
   subst hK
   obtain ⟨hel,hr⟩:=HE.out
   have HRE:=hid hr
   obtain ⟨K',cap',hbB,c0',c1',c2',c3',c4',hc2,hcm2,hks2⟩:=ElAt.cells hel
   have hget0:es.get? j=some ⟨kk,m',p',c1,ks'⟩:=by have:=hget.out 0;rw [Nat.add_zero] at this;rw [←this];rfl
   have hgetr:Hid (∀ i,r.get? i=es.get? (j+1+i)):=fun i=>by have:=hget.out (i+1);rw [show j+1+i=j+(i+1) by omega,←this];rfl
   have hrs:Hid (r.size≤es.size):=by have:=hsz2.out;simp only [Es.size] at this;show _≤_;omega
   have hbr:bk<wr.heap.size:=by have:=HO.out.size;omega
   have hoS:Only S w wr:=HO.out.sub fun q e=>by rw [e];exact HSI.out.bv
   have hNk:NdInP wr B (privS S g) u P fn ⟨kk,m',p',c1,ks'⟩ K' cap' A env ecap:=⟨hks2,hc2,hcm2,HN.out.envA.fresh hoS hG.out.2.1,HN.out.el,HN.out.em,by have:=HN.out.big;have:=Es.get?_depth hget0;show env.length+ks'.depth≤1000000;simp only at this;omega,by have:=HN.out.size;have:=Es.get?_size hget0;show ks'.size≤400;simp only at this;omega,HN.out.form j _ hget0,HN.out.f0,HN.out.f1⟩
   have hSI2:SIn wr B (privS S g) bv u:=HSI.out.fresh HO.out.size hG.out.2.1 hG.out.2.2 (by omega)
   have HNK:=hid hNk
   have HSI2:=hid hSI2
   clear hr hks2 hget0 hel hNk HE hget hsz2 hSI2 hoS
   go_wp2_with fail
   have hgw:Below wr.heap.size wr (wr.alloc (.cells #[.int .i64 kk,.int .i64 m',.int .i64 p',.int .i64 c1,.slice K' ks'.len cap'] 33)):=by go_grown
   have hbx:=Cells.new wr 33 [.int .i64 kk,.int .i64 m',.int .i64 p',.int .i64 c1,.slice K' ks'.len cap']
   have hkid:NdInP (wr.alloc (.cells #[.int .i64 kk,.int .i64 m',.int .i64 p',.int .i64 c1,.slice K' ks'.len cap'] 33)) B (privS S g) u P fn ⟨kk,m',p',c1,ks'⟩ K' cap' A env ecap:=⟨HNK.out.kids.below (hgw.mono (by have:=HO.out.size;omega)),HNK.out.kl,HNK.out.km,HNK.out.envA.only (Only.of_below hgw),HNK.out.el,HNK.out.em,HNK.out.big,HNK.out.size,HNK.out.form,HNK.out.f0,HNK.out.f1⟩
   refine (HIH.out ⟨kk,m',p',c1,ks'⟩ env s' s'.toNat c' fn K' cap' B (privS S g) bv A PA ecap pcap _ ((HI.out.only HO.out).only (Only.of_below hgw)) (HSI2.out.mono hgw.size) (HS.out.next hgw) HM.out.now hkid).mono ?_;rintro e w1 ⟨v,ts,s2,cc2,rfl,⟨Az,cz,rfl,hpz,hkz⟩,hS1,hO1,hres⟩
   have hO2:=(Only.of_below hgw).trans hO1
   have hs12:=hO2.size
   have HR1:=hid (HR.out.only HSI.out.bv al hO2)
   have HM1:=hid (HM.out.step hres)
   have HO1:=hid (HO.out.trans hO2)
   have HE1:Hid (ExsAt w1 B r bk (ok+(j+1)*5)):=by
    have:=HRE.out.below (only_below hO2 hB (by have:=HO.out.size;omega))
    rwa [show ok+j*5+5=ok+(j+1)*5 by omega] at this
   have HS1:=hid hS1
   have HPZ:=hid (And.intro hpz hkz)
   obtain ⟨ps,hG1,hps,hoks,hkp⟩:=HR1.out
   have hpl:ps.length=j:=by have:=congrArg List.length hps;rw [List.length_map,htl.out] at this;exact this
   have HG1:=hid hG1
   have HKP:=hid hkp
   have HOKS:=hid hoks
   have HPS:=hid hps
   have hw1:w.heap.size≤w1.heap.size:=HO1.out.size
   clear hgw hkid hpz hkz hS1 hO1 hO2 hres hG1 hps hoks hkp HR HM HO HS HRE HNK c0' c1' c2' c3' c4' hbx
   obtain ⟨W1',hW1'⟩:∃ W,W=w1.alloc (.cells (poD u (ts,Az,cz)).toArray 86):=⟨_,rfl⟩
   have hb2:Below w1.heap.size w1 W1':=by rw [hW1'];go_grown
   have hC2:Cells W1' w1.heap.size 86 (poD u (ts,Az,cz)):=by rw [hW1'];exact Cells.new _ _ _
   have HOW:=hid (HG1.out.below hb2).own
   have HB2:=hid hb2
   have HC2:=hid hC2
   have HW1:=hid hW1'
   clear hb2 hC2 hW1'
   go_wp2_with (at_builtin;change wpList _ _ _ _ _ (w1.alloc (.cells (poD u (ts,Az,cz)).toArray 86));rw [←HW1.out];refine wpList_append_own_at _ rfl _ _ 162 rfl w.heap.size 86 i0 (.agg #[.int .i64 0,.slice none 0 0]) 2 32 Tryz.underlying162 hi hz0 hz1 hz2 rfl (by decide) _ _ _ rfl HOW.out ⟨w1.heap.size,0,none⟩ 1 1 (poD u (ts,Az,cz)) rfl rfl ?c1 ?c2 ?c3 ?c4 ?c5 ?_)
   case c1=>intro q z hz;rw [addr_add,Nat.zero_add];exact (HC2.out.cell q).trans hz
   case c2=>intro z hz;simp only [poD,List.mem_cons,List.not_mem_nil,or_false] at hz;rcases hz with rfl | rfl<;>rfl
   case c3=>simp only [List.length_map];unfold maxLen;omega
   case c4=>simp only [List.length_map];omega
   case c5=>have:=HB2.out.size;omega
   intro v2 w2 hown0 hg2 _ hat
   have hown:w2.ownsRow w.heap.size 86 2 v2 ((ps.map (poEl S u)).length+1) ((ps.map (poEl S u)).flatMap (·.1)++poD u (ts,Az,cz)):=by
    rw [List.length_map,hpl]
    exact hown0
   have hgl:=(HG1.out.lt hG.out.1)
   obtain ⟨hp2,hbl⟩:=PRow.push (p:=(ts,Az,cz)) HG1.out (by rw [HPS.out];exact HOKS.out) HKP.out hG.out.1 (Below.refl _ _) HPZ.out.1 HPZ.out.2 HB2.out hown hg2 hat
   rw [HPS.out] at hp2
   have hg3:∃ g3,v2.ownBlock=some g3∧w.heap.size≤g3∧g3<w2.heap.size:=by
    have hs2:=hg2.size
    have hs1:=HB2.out.size
    rcases hat with e | e
    ·exact ⟨g,e.trans hG.out.1,hgl.1,by omega⟩
    ·exact ⟨W1'.heap.size,e,by omega,(World.ownsRow.lt hown _ e).2⟩
   obtain ⟨g3,hg3⟩:=hg3
   have HG3:=hid hg3
   have HP2:=hid hp2
   have HS2:Hid (Cells w2 bv 168 (hdP u P PA pcap++[.int .i64 s2,.int .i64 cc2])):=(hbl.block bv al).trans HS1.out
   have HO2:Hid (Only (fun q=>q=bv) w w2):=⟨hbl.os.trans HO1.out.os,hbl.tape.trans HO1.out.tape,hbl.output.trans HO1.out.output,Nat.le_trans HO1.out.size hbl.size,fun q hq hn=>(hbl.block q hq).trans (HO1.out.block q hq hn)⟩
   have HE2:Hid (ExsAt w2 B r bk (ok+(j+1)*5)):=HE1.out.below (hbl.mono (by omega))
   have htl2:Hid ((tss++[ts]).length=j+1):=by show _=_;rw [List.length_append,htl.out];rfl
   clear hown hg2 hat hp2 hbl hg3 HG1 HKP HOKS HPS HOW HC2 HB2 HPZ hgl
   go_wp2
   go_roundw
   case rel=>exact ⟨j+1,r,tss++[ts],g3,s2,cc2,by go_num,HG3,by omega,htl2,hrs,hgetr,HE2,HP2,HS2,HO2,HM1⟩
   case measure=>simp [intOf];omega
end
section
open Go.RowKit Plain
theorem poFlat {w:World} {u:Int} {b:Nat}:∀ (ps:List PoQ) (o:Nat),(∀ (j:Nat) p,ps[j]? = some p→w.cell? ⟨b,o+j*2,none⟩=some (.int .i64 u)∧w.cell? ⟨b,o+j*2+1,none⟩=some (.slice p.2.1 p.1.length p.2.2))→∀ (q:Nat) z,(ps.flatMap (poD u))[q]? = some z→w.cell? ⟨b,o+q,none⟩=some z
 | [],_,_,q,z,hz=>by simp at hz
 | p :: ps,o,h,q,z,hz=>by
  obtain ⟨h0,h1⟩:=h 0 p rfl
  simp only [Nat.zero_mul,Nat.add_zero] at h0 h1
  rw [List.flatMap_cons] at hz
  match q,hz with
  | 0,hz=>rw [Nat.add_zero,h0];simpa [poD] using hz
  | 1,hz=>rw [h1];simpa [poD] using hz
  | q+2,hz=>
   have hz':(ps.flatMap (poD u))[q]? = some z:=by simpa [poD] using hz
   have:=poFlat ps (o+2) (fun j p hj=>by
    have:=h (j+1) p hj
    rw [show o+2+j*2=o+(j+1)*2 by omega];exact this) q z hz'
   rw [show o+(q+2)=o+2+q by omega];exact this
theorem PEnv.qs {w:World} {S:Nat→Prop} {u:Int} {A:Option Addr} {env:List (List Term')} (h:PEnv w S u A env):∃ ps:List PoQ,ps.map (·.1)=env∧(∀ a,A=some a→∀ (q:Nat) z,(ps.flatMap (poD u))[q]? = some z→w.cell? (a.add q)=some z)∧∀ p∈ps,PAt w S p.2.1 p.1:=by
 obtain ⟨_,b,o,f,hA,hf⟩:=h
 obtain ⟨ps,hl,hq⟩:=list_of env.length (fun j (p:PoQ)=>env[j]? = some p.1∧p.2=f j) fun i hi=>⟨(env[i],f i),by simp [List.getElem?_eq_getElem hi],rfl⟩
 have he:∀ (j:Nat) p,ps[j]? = some p→env[j]? = some p.1∧p.2=f j:=fun j p hj=>hq j p hj
 refine ⟨ps, ?_,fun a ha q z hz=>?_,fun p hp=>?_⟩
 ·refine List.ext_getElem? fun j=>?_
  rw [List.getElem?_map]
  by_cases hj:j<ps.length
  ·rw [List.getElem?_eq_getElem hj]
   exact (he j _ (List.getElem?_eq_getElem hj)).1.symm
  ·rw [List.getElem?_eq_none (by omega),List.getElem?_eq_none (by omega)];rfl
 ·by_cases h0:0<env.length
  ·obtain ⟨_,hc⟩:=hf w (OnlyH.refl _ _) h0
   rw [hA h0] at ha
   injection ha with ha
   subst ha
   rw [addr_add]
   refine poFlat ps o (fun j p hj=>?_) q z hz
   obtain ⟨e1,e2⟩:=he j p hj
   have:=hc j _ e1
   rw [e2]
   exact ⟨this.1,this.2.1⟩
  ·have:ps=[]:=List.length_eq_zero_iff.1 (by omega)
   subst this
   simp at hz
 ·obtain ⟨j,hj⟩:=List.getElem?_of_mem hp
  obtain ⟨e1,e2⟩:=he j p hj
  have h0:0<env.length:=by have:=(List.getElem?_eq_some_iff.1 e1).1;omega
  intro w' ho
  rw [e2]
  exact ((hf w' ho h0).2 j _ e1).2.2
theorem PEnv.nil0 {w:World} {S:Nat→Prop} {u:Int} {A:Option Addr} {env:List (List Term')} (h:PEnv w S u A env) (hA:A=none):env.length=0:=by
 rcases Nat.eq_zero_or_pos env.length with h0 | h0
 ·exact h0
 ·obtain ⟨_,b,o,f,e,_⟩:=h
  rw [hA] at e;have:=e h0;cases this
theorem PEnv.more {w w2:World} {S:Nat→Prop} {u:Int} {env:List (List Term')} {ps:List PoQ} {p:PoQ} {v2:Value} (hm:ps.map (·.1)=env) (hok:∀ ts∈env,polyOk u ts=true) (hp:∀ q∈ps,PAt w S q.2.1 q.1) (hp1:PAt w S p.2.1 p.1) (hpo:polyOk u p.1=true) (hS:∀ q,S q→q<w.heap.size)
  (hown:w2.ownsRow w.heap.size 86 2 v2 (env.length+1) (ps.flatMap (poD u)++poD u p)) (hg:w.grownBy w2 none) :
  ∃ A2 c2,v2=.slice A2 (env.length+1) c2∧env.length+1≤c2∧c2≤maxLen∧PEnv w2 S u A2 (env++[p.1])∧Below w.heap.size w w2:=by
 have hb:Below w.heap.size w w2:=⟨hg.os,hg.tape,hg.output,hg.size,fun k hk=>hg.block k hk (by simp)⟩
 have hl:ps.length=env.length:=by rw [←hm,List.length_map]
 have hall:∀ q∈ps++[p],PAt w S q.2.1 q.1:=fun q hq=>by
  rcases List.mem_append.1 hq with h | h
  ·exact hp q h
  ·rw [List.mem_singleton.1 h];exact hp1
 have hfr:∀ q∈ps++[p],∀ g,w.heap.size≤g→PAt w2 (privS S g) q.2.1 q.1:=fun q hq g hgg w3 h3=>hall q hq w3 (((Only.of_below (S:=S) hb).h).fresh hgg h3)
 have hge:∀ g,(v2.ownBlock=some g∨w2.heap.size≤g)→w.heap.size≤g:=fun g e=>by
  rcases e with e | e
  ·exact (World.ownsRow.lt hown g e).1
  ·exact Nat.le_trans hb.size e
 have hrow:PRow w2 w.heap.size S u v2 (env++[p.1]):=by
  refine ⟨ps++[p],⟨?_,hb.size,fun el he=>?_,fun el he g hgg=>?_⟩,by rw [List.map_append,hm];rfl,fun ts hts=>?_,fun q hq g hgg=>hfr q hq g (hge g hgg)⟩
  ·have e1:((ps++[p]).map (poEl S u)).length=env.length+1:=by simp [hl]
   have e2:((ps++[p]).map (poEl S u)).flatMap (·.1)=ps.flatMap (poD u)++poD u p:=by simp [List.flatMap_map]
   rw [e1,e2];exact hown
  ·obtain ⟨q,hq,rfl⟩:=List.mem_map.1 he
   rfl
  ·obtain ⟨q,hq,rfl⟩:=List.mem_map.1 he
   exact (hfr q hq g (hge g hgg)).outl
  ·rcases List.mem_append.1 hts with h | h
   ·exact hok ts h
   ·rw [List.mem_singleton.1 h];exact hpo
 obtain ⟨A,cap,q1,q2,q3,q4⟩:=hrow.env hS
 rw [List.length_append] at q1 q2
 exact ⟨A,cap,q1,q2,q3,q4,hb⟩
end
section
open Go.RowKit Plain
structure LetMidP (w1:World) (S:Nat→Prop) (u:Int) (A:Option Addr) (env:List (List Term')) (ts:List Term') (Az:Option Addr) (cz:Nat) (ps:List PoQ):Prop where
 len:ps.map (·.1)=env
 ok:∀ ts∈env,polyOk u ts=true
 holds:∀ b,A=some b→∀ (j:Nat) v,(ps.flatMap (poD u))[j]? = some v→(w1.alloc (.cells #[.int .i64 u,.slice Az ts.length cz] 86)).cell? (b.add j)=some v
 rows:∀ q∈ps,PAt (w1.alloc (.cells #[.int .i64 u,.slice Az ts.length cz] 86)) S q.2.1 q.1
 news:∀ (j:Nat) v,[Value.int .i64 u,.slice Az ts.length cz][j]? = some v→(w1.alloc (.cells #[.int .i64 u,.slice Az ts.length cz] 86)).cell? ((Addr.mk w1.heap.size 0 none).add j)=some v
 val:PAt (w1.alloc (.cells #[.int .i64 u,.slice Az ts.length cz] 86)) S Az ts
 vok:polyOk u ts=true
 nil:A=none→env.length=0
theorem letMidP {w1:World} {S:Nat→Prop} {u:Int} {A:Option Addr} {env:List (List Term')} {ts:List Term'} {Az:Option Addr} {cz:Nat} (he:PEnv w1 S u A env) (hp:PAt w1 S Az ts) (hok:polyOk u ts=true):∃ ps,LetMidP w1 S u A env ts Az cz ps:=by
 have hg:Below w1.heap.size w1 (w1.alloc (.cells #[.int .i64 u,.slice Az ts.length cz] 86)):=by go_grown
 obtain ⟨ps,h1,h2,h3⟩:=(he.only (Only.of_below hg)).qs
 refine ⟨ps,h1,he.1,h2,h3,fun j v hj=>?_,hp.only (Only.of_below hg),hok,fun h=>he.nil0 h⟩
 have hc:Cells (w1.alloc (.cells #[.int .i64 u,.slice Az ts.length cz] 86)) w1.heap.size 86 [.int .i64 u,.slice Az ts.length cz]:=Cells.new w1 _ _
 rw [addr_add,Nat.zero_add]
 exact (hc.cell j).trans hj
theorem LetMidP.num {w1:World} {S:Nat→Prop} {u:Int} {A:Option Addr} {env:List (List Term')} {ts:List Term'} {Az:Option Addr} {cz:Nat} {ps:List PoQ} (h:LetMidP w1 S u A env ts Az cz ps):(ps.flatMap (poD u)).length=env.length*2:=by
 have hl:ps.length=env.length:=by rw [←h.len,List.length_map]
 rw [←hl]
 clear h hl
 induction ps with
 | nil=>rfl
 | cons p ps ih=>rw [List.flatMap_cons,List.length_append,ih,List.length_cons];simp [poD];omega
theorem letMoreP {W w1 w2:World} {bv:Nat} {S:Nat→Prop} {u:Int} {A:Option Addr} {env:List (List Term')} {ts:List Term'} {Az:Option Addr} {cz:Nat} {ps:List PoQ} {v2:Value} {te:TypeId} {C:List Value} (hm:LetMidP w1 S u A env ts Az cz ps) (hown:w2.ownsRow (w1.alloc (.cells #[.int .i64 u,.slice Az ts.length cz] 86)).heap.size 86 2 v2 (env.length+1) (ps.flatMap (poD u)++[.int .i64 u,.slice Az ts.length cz])) (hg:(w1.alloc (.cells #[.int .i64 u,.slice Az ts.length cz] 86)).grownBy w2 none) (hO1:Only (fun q=>q=bv) W w1) (hC:Cells w1 bv te C) (hS:∀ q,S q→q<W.heap.size) :
  ∃ A2 c2,v2=.slice A2 (env.length+1) c2∧env.length+1≤c2∧c2≤maxLen∧PEnv w2 S u A2 (env++[ts])∧Only (fun q=>q=bv) W w2∧Cells w2 bv te C:=by
 have hgr:Below w1.heap.size w1 (w1.alloc (.cells #[.int .i64 u,.slice Az ts.length cz] 86)):=by go_grown
 obtain ⟨A2,c2,h1,h2,h3,h4,h5⟩:=PEnv.more (p:=(ts,Az,cz)) hm.len hm.ok hm.rows hm.val hm.vok (fun q e=>by have:=hS q e;have:=hO1.size;have:=hgr.size;omega) hown hg
 exact ⟨A2,c2,h1,h2,h3,h4,(hO1.trans (Only.of_below hgr)).trans (Only.of_below h5),(hC.next hgr).next h5⟩
def LetEnd (S:Nat→Prop) (bv:Nat) (u:Int) (P:List Fn) (PA:Option Addr) (pcap:Nat) (rr:Res (List Term')) (w w3:World) (A3:Option Addr) (n3 cp3:Nat):Prop:=
  (w3.cell? ⟨w.heap.size+1,0,none⟩=some (.int .i64 0)∧w3.cell? ⟨w.heap.size+1,1,none⟩=some (.slice none 0 0)∧w3.frozen? ⟨w.heap.size+1,0,none⟩=false∧w3.frozen? ⟨w.heap.size+1,1,none⟩=false) ∧
  ((w3.setCell ⟨w.heap.size+1,0,none⟩ (.int .i64 u)).cell? ⟨w.heap.size+1,0,none⟩=some (.int .i64 u)∧((w3.setCell ⟨w.heap.size+1,0,none⟩ (.int .i64 u)).setCell ⟨w.heap.size+1,1,none⟩ (.slice A3 n3 cp3)).cell? ⟨w.heap.size+1,1,none⟩=some (.slice A3 n3 cp3)) ∧
  PPost S bv u 168 (hdP u P PA pcap) rr w (.returned (poV u A3 n3 cp3)) ((w3.setCell ⟨w.heap.size+1,0,none⟩ (.int .i64 u)).setCell ⟨w.heap.size+1,1,none⟩ (.slice A3 n3 cp3))
theorem clipP_any (A:Option Addr) (n cap:Nat) (w:World) (hn:n≤cap) (_hc:cap≤maxLen):Calls Tryz.prog 234 #[.slice A n cap] w fun e w'=>e=.returned (.slice A n n)∧w=w':=by
 unfold maxLen at _hc
 cases A with
 | none=>
  go_enter Tryz.func234,Tryz.ntmps234
  go_wp2
  go_ret
  exact ⟨rfl,rfl⟩
 | some a=>
  go_enter Tryz.func234,Tryz.ntmps234
  go_wp2
  go_ret
  exact ⟨rfl,rfl⟩
theorem poly_let (P:List Fn) (x:Nd) (u:Int) (f:Nat) (IH:PolyC P u f) (env:List (List Term')) (t:Nat) (fn:Int) (K:Option Addr) (cap B:Nat) (S:Nat→Prop) (bv:Nat) (A PA:Option Addr) (ecap pcap:Nat) (w:World) (hI:EvIn w B bv 1 P PA pcap) (hS:SIn w B S bv u) (hst:Cells w bv 168 (hdP u P PA pcap++[.int .i64 t,.int .i64 0])) (hN:NdInP w B S u P fn x K cap A env ecap) (hk:x.k=9) (hs:t<3000) (hf:3001≤t+(f+1)) :
  Calls Tryz.prog 176 #[.pointer (some ⟨bv,0,none⟩),exV x.k x.n x.p x.c K x.ks.len cap,.slice A env.length ecap] w (PPost S bv u 168 (hdP u P PA pcap) (pv u P (f+1) x env t) w):=by
 obtain ⟨i0,hi,hz0,hz1,hz2⟩:=info_parts Tryz.infoPo
 have hl3:=formed_op9 hN.form hk
 obtain ⟨a,ha⟩:=Es.get?_some (show 0<x.ks.len by omega)
 obtain ⟨b,hb⟩:=Es.get?_some (show 1<x.ks.len by omega)
 have HEV:Hid (pv u P (f+1) x env t=match pv u P f a env (t+1) with | .err e=>.err e | .ok z s1=>pv u P f b (env++[z]) s1):=by
  show _=_
  rw [pv,if_neg (by omega),if_neg (by omega),if_neg (by omega),if_neg (by omega),if_pos hk,ha,hb]
  all_goals rfl
 obtain ⟨rr,hrr⟩:∃ rr,rr=pv u P (f+1) x env t:=⟨_,rfl⟩
 rw [←hrr]
 have HRR:=hid (hrr.trans HEV.out)
 clear HEV hrr
 have HIH:=hid IH;clear IH
 have al:=hI.lt
 have hB:=hI.blow
 have a1:w.cell? ⟨bv,1,none⟩=some (.int .i64 u):=by rw [hst.cell];rfl
 have a2:w.cell? ⟨bv,2,none⟩=some (.int .i64 t):=by rw [hst.cell];rfl
 have a3:w.cell? ⟨bv,3,none⟩=some (.int .i64 0):=by rw [hst.cell];rfl
 have z2:w.frozen? ⟨bv,2,none⟩=false:=hst.frozen _
 have e1:((t:Int)==3000)=false:=by simp;omega
 have hE:=pvStep hI hS hst 9 x.n x.p x.c K x.ks.len cap
 obtain ⟨bk,ok,rfl,hea⟩:=hN.kids.get ha
 obtain ⟨bk1,ok1,e0,heb⟩:=hN.kids.get hb
 obtain ⟨rfl,rfl⟩:bk=bk1∧ok=ok1:=by simpa using e0
 have hb0:=only_below hE.only hB al
 obtain ⟨Ka,capa,hkB,k0,k1,k2,k3,k4,kc,km,kk⟩:=(hea.below hb0).cells
 obtain ⟨Kb,capb,_,l0',l1',l2',l3',l4',lc,lm,lk⟩:=(heb.below hb0).cells
 simp only [Nat.zero_mul,Nat.add_zero,Nat.one_mul] at k0 k1 k2 k3 k4 l0' l1' l2' l3' l4'
 have hkl:bk<w.heap.size:=by omega
 have l0:(0:Int)<(x.ks.len:Int):=by omega
 have l1:(1:Int)<(x.ks.len:Int):=by omega
 have l0n:0<x.ks.len:=by omega
 have l1n:1<x.ks.len:=by omega
 have x4:(pvW w bv t 9 x.n x.p x.c (some ⟨bk,ok,none⟩) x.ks.len cap).cell? ⟨w.heap.size,4,none⟩=some (.slice (some ⟨bk,ok,none⟩) x.ks.len cap):=by rw [hE.bx.cell];rfl
 have HS0:=hid (And.intro x4 (And.intro k0 (And.intro k1 (And.intro k2 (And.intro k3 (And.intro k4 (And.intro l0' (And.intro l1' (And.intro l2' (And.intro l3' l4'))))))))))
 have hoS:Only S w (pvW w bv t 9 x.n x.p x.c (some ⟨bk,ok,none⟩) x.ks.len cap):=hE.only.sub fun q e=>by rw [e];exact hS.bv
 have HNa:=hid (hN.kid hoS (g:=w.heap.size+1) (by omega) ha (.inr (by omega)) kk kc km)
 have HLK:=hid lk
 have HLB:=hid (And.intro lc lm)
 have HE:=hid hE
 have HSI:=hid hS
 have HN:=hid hN
 have HHB:=hid hb
 have hel:=hN.el
 have hem:=hN.em
 have hbig:=hN.big
 have HEL1:=Es.get?_depth hb
 clear hI hst hea heb hE hN ha hb hb0 kk lk e0 hl3 lc lm x4 hS hoS k0 k1 k2 k3 k4 l0' l1' l2' l3' l4'
 have HKK:=hid hk
 rw [hk]
 clear hk
 go_enter Tryz.func176,Tryz.ntmps176
 go_upto_region 17 with fail
 change Code.wp _ _ _ _ (pvW w bv t 9 x.n x.p x.c (some ⟨bk,ok,none⟩) x.ks.len cap)
 generalize pvW w bv t 9 x.n x.p x.c (some ⟨bk,ok,none⟩) x.ks.len cap=W at *
 have hkW:bk<W.heap.size:=by have:=HE.out.size;omega
 have hbvW:bv<W.heap.size:=HE.out.ev.lt
 have hWl:w.heap.size<W.heap.size:=HE.out.bx.lt
 have hg9:w.heap.size≠bv:=by omega
 have hk9:bk≠bv:=by omega
 have hd:Only (fun q=>q=bv) W W.drew:=(Only.refl _ W).drewN 1
 have HCL:Hid (∀ wx,Calls Tryz.prog 234 #[.slice A env.length ecap] wx fun e w'=>e=.returned (.slice A env.length env.length)∧wx=w'):=fun wx=>clipP_any A env.length ecap wx hel hem
 have HV0:Hid (Calls Tryz.prog 176 #[.pointer (some ⟨bv,0,none⟩),exV a.k a.n a.p a.c Ka a.ks.len capa,.slice A env.length ecap] W.drew fun e w1=>∃ Az cz ts s' c' ps,e=.returned (.agg #[.int .i64 u,.slice Az ts.length cz])∧Only (fun q=>q=bv) W w1∧LetMidP w1 (privS S (w.heap.size+1)) u A env ts Az cz ps∧Cells w1 bv 168 (hdP u P PA pcap++[.int .i64 s',.int .i64 c'])∧ResIs (pvC u P f 0 a env (t+1)) ts s' c'):=by
  have hdS:Only (privS S (w.heap.size+1)) W W.drew:=(Only.refl _ W).drewN 1
  refine (HIH.out a env ((t+1:Nat):Int) (t+1) 0 fn Ka capa B (privS S (w.heap.size+1)) bv A PA ecap pcap W.drew (HE.out.ev.only hd) (HE.out.si.mono hd.size) (HE.out.st.drewN 1) (fun _=>⟨rfl,by omega,by omega⟩) ⟨HNa.out.kids.below (only_below hd hB hbvW),HNa.out.kl,HNa.out.km,HNa.out.envA.only hdS,HNa.out.el,HNa.out.em,HNa.out.big,HNa.out.size,HNa.out.form,HNa.out.f0,HNa.out.f1⟩).mono ?_
  rintro e w1 ⟨v,zs,s',c',rfl,⟨Az,cz,rfl,hpz,hkz⟩,hS1,hO1,hres⟩
  have hO2:=hd.trans hO1
  obtain ⟨ps,hmid⟩:=letMidP (cz:=cz) (HNa.out.envA.only (hO2.sub fun q e=>by rw [e];exact HE.out.si.bv)) hpz hkz
  exact ⟨Az,cz,zs,s',c',ps,rfl,hO2,hmid,hS1,hres⟩
 have HV1:Hid (∀ (A2:Option Addr) (c2:Nat) (w2:World) (ts:List Term') (s' c':Int),Only (fun q=>q=bv) W w2→Cells w2 bv 168 (hdP u P PA pcap++[.int .i64 s',.int .i64 c'])→ResIs (pvC u P f 0 a env (t+1)) ts s' c'→PEnv w2 (privS S (w.heap.size+1)) u A2 (env++[ts])→env.length+1≤c2→c2≤maxLen →
   Calls Tryz.prog 176 #[.pointer (some ⟨bv,0,none⟩),exV b.k b.n b.p b.c Kb b.ks.len capb,.slice A2 (env.length+1) c2] w2 fun e w3=>∃ A3 n3 cp3,e=.returned (.agg #[.int .i64 u,.slice A3 n3 cp3])∧LetEnd S bv u P PA pcap rr w w3 A3 n3 cp3∧Only (fun q=>q=bv) W w3):=by
  intro A2 c2 w2 ts s' c' hO hC hres hE hc2 hm2
  have hform:=formed_kids HN.out.form HHB.out
  have hkv:kidVars x.k env.length 1=((env++[ts]).length:Int):=by
   rw [HKK.out,kidVars_yes];simp
  rw [hkv] at hform
  have hz:=HIH.out b (env++[ts]) s' s'.toNat c' fn Kb capb B (privS S (w.heap.size+1)) bv A2 PA c2 pcap w2 (HE.out.ev.only hO) (HE.out.si.mono hO.size) hC (fun h=>by
   obtain ⟨_,t1,rfl,h1,h2,_⟩:=pvC_next hres h
   exact ⟨by simp,by simp;omega,by simp;omega⟩) ⟨HLK.out.below (only_below hO hB hbvW),HLB.out.1,HLB.out.2,hE,by simp;omega,hm2,by simp;omega,by have:=Es.get?_size HHB.out;have:=HN.out.size;omega,hform,HN.out.f0,HN.out.f1⟩
  rw [List.length_append] at hz
  refine Calls.mono hz fun e w3 h=>?_
  have hq:pvC u P f c' b (env++[ts]) s'.toNat=rr:=by
   rw [HRR.out]
   by_cases hc0:c'=0
   ·obtain ⟨_,t1,rfl,h1,h2,h3⟩:=pvC_next hres hc0
    rw [h3]
    unfold pvC
    rw [if_pos hc0]
    simp only [Int.toNat_natCast]
   ·rw [pvC_bad hres hc0 rfl]
    unfold pvC
    rw [if_neg hc0]
  obtain ⟨v,ts3,s3,c3,rfl,⟨A3,cp3,rfl,hp3,hk3⟩,hS3,hO3,hres3⟩:=h
  rw [hq] at hres3
  exact ⟨A3,ts3.length,cp3,rfl,polyEnd (w:=w) (w1:=w3) (cap:=cp3) (r:=rr) hp3 hk3 hS3 ((HE.out.only.trans hO).trans hO3) hres3 al (only_cells HE.out.rb (hO.trans hO3) (by omega)),hO.trans hO3⟩
 have HB1:Hid (env.length+1≤maxLen∧(env.length+1)*32≤140737488355328):=⟨by unfold maxLen;omega,by omega⟩
 have HSLT:Hid (∀ q,privS S (w.heap.size+1) q→q<W.heap.size):=HE.out.si.lt
 have HSD:Hid (W.drew.cell? ⟨w.heap.size,4,none⟩=some (.slice (some ⟨bk,ok,none⟩) x.ks.len cap)∧W.drew.cell? ⟨bk,ok,none⟩=some (.int .i64 a.k)∧W.drew.cell? ⟨bk,ok+1,none⟩=some (.int .i64 a.n)∧W.drew.cell? ⟨bk,ok+2,none⟩=some (.int .i64 a.p)∧W.drew.cell? ⟨bk,ok+3,none⟩=some (.int .i64 a.c)∧W.drew.cell? ⟨bk,ok+4,none⟩=some (.slice Ka a.ks.len capa) ∧
   W.drew.cell? ⟨bk,ok+5,none⟩=some (.int .i64 b.k)∧W.drew.cell? ⟨bk,ok+5+1,none⟩=some (.int .i64 b.n)∧W.drew.cell? ⟨bk,ok+5+2,none⟩=some (.int .i64 b.p)∧W.drew.cell? ⟨bk,ok+5+3,none⟩=some (.int .i64 b.c)∧W.drew.cell? ⟨bk,ok+5+4,none⟩=some (.slice Kb b.ks.len capb)):=HS0.out
 refine RegE.start (S:=fun wx=>wx.cell? ⟨w.heap.size,4,none⟩=some (.slice (some ⟨bk,ok,none⟩) x.ks.len cap)∧wx.cell? ⟨bk,ok,none⟩=some (.int .i64 a.k)∧wx.cell? ⟨bk,ok+1,none⟩=some (.int .i64 a.n)∧wx.cell? ⟨bk,ok+2,none⟩=some (.int .i64 a.p)∧wx.cell? ⟨bk,ok+3,none⟩=some (.int .i64 a.c)∧wx.cell? ⟨bk,ok+4,none⟩=some (.slice Ka a.ks.len capa)∧wx.cell? ⟨bk,ok+5,none⟩=some (.int .i64 b.k)∧wx.cell? ⟨bk,ok+5+1,none⟩=some (.int .i64 b.n)∧wx.cell? ⟨bk,ok+5+2,none⟩=some (.int .i64 b.p)∧wx.cell? ⟨bk,ok+5+3,none⟩=some (.int .i64 b.c)∧wx.cell? ⟨bk,ok+5+4,none⟩=some (.slice Kb b.ks.len capb)) 17 (by kernel_rfl) (by kernel_rfl) ?Sa0 (fun hHeld hB=>?_)
 case Sa0=>((try dsimp only);exact HSD.out)
 refine RegE.takeL (S:=fun wx=>wx.cell? ⟨w.heap.size,4,none⟩=some (.slice (some ⟨bk,ok,none⟩) x.ks.len cap)∧wx.cell? ⟨bk,ok,none⟩=some (.int .i64 a.k)∧wx.cell? ⟨bk,ok+1,none⟩=some (.int .i64 a.n)∧wx.cell? ⟨bk,ok+2,none⟩=some (.int .i64 a.p)∧wx.cell? ⟨bk,ok+3,none⟩=some (.int .i64 a.c)∧wx.cell? ⟨bk,ok+4,none⟩=some (.slice Ka a.ks.len capa)∧wx.cell? ⟨bk,ok+5,none⟩=some (.int .i64 b.k)∧wx.cell? ⟨bk,ok+5+1,none⟩=some (.int .i64 b.n)∧wx.cell? ⟨bk,ok+5+2,none⟩=some (.int .i64 b.p)∧wx.cell? ⟨bk,ok+5+3,none⟩=some (.int .i64 b.c)∧wx.cell? ⟨bk,ok+5+4,none⟩=some (.slice Kb b.ks.len capb)) (i:=0) (v:=?va0) hB rfl (by decide) (by kernel_rfl) (by kernel_rfl) (fun _ _ _ h=>h) (Or.inl ⟨by rfl, ?ya0⟩) hHeld ?ra0
 case ya0=>((intro w hSw;(try dsimp only at hSw);go_simp)<;>with_reducible rfl)
 (try simp only [Act.put,List.setIfInBounds_toArray,List.set_cons_zero,List.set_cons_succ])
 refine RegE.takeL (S:=fun wx=>wx.cell? ⟨w.heap.size,4,none⟩=some (.slice (some ⟨bk,ok,none⟩) x.ks.len cap)∧wx.cell? ⟨bk,ok,none⟩=some (.int .i64 a.k)∧wx.cell? ⟨bk,ok+1,none⟩=some (.int .i64 a.n)∧wx.cell? ⟨bk,ok+2,none⟩=some (.int .i64 a.p)∧wx.cell? ⟨bk,ok+3,none⟩=some (.int .i64 a.c)∧wx.cell? ⟨bk,ok+4,none⟩=some (.slice Ka a.ks.len capa)∧wx.cell? ⟨bk,ok+5,none⟩=some (.int .i64 b.k)∧wx.cell? ⟨bk,ok+5+1,none⟩=some (.int .i64 b.n)∧wx.cell? ⟨bk,ok+5+2,none⟩=some (.int .i64 b.p)∧wx.cell? ⟨bk,ok+5+3,none⟩=some (.int .i64 b.c)∧wx.cell? ⟨bk,ok+5+4,none⟩=some (.slice Kb b.ks.len capb)) (i:=1) (v:=?va1) hB rfl (by decide) (by kernel_rfl) (by kernel_rfl) (fun _ _ _ h=>h) (Or.inl ⟨by rfl, ?ya1⟩) hHeld ?ra1
 case ya1=>((intro w hSw;(try dsimp only at hSw);go_simp)<;>with_reducible rfl)
 (try simp only [Act.put,List.setIfInBounds_toArray,List.set_cons_zero,List.set_cons_succ])
 refine RegE.takeL (S:=fun wx=>wx.cell? ⟨w.heap.size,4,none⟩=some (.slice (some ⟨bk,ok,none⟩) x.ks.len cap)∧wx.cell? ⟨bk,ok,none⟩=some (.int .i64 a.k)∧wx.cell? ⟨bk,ok+1,none⟩=some (.int .i64 a.n)∧wx.cell? ⟨bk,ok+2,none⟩=some (.int .i64 a.p)∧wx.cell? ⟨bk,ok+3,none⟩=some (.int .i64 a.c)∧wx.cell? ⟨bk,ok+4,none⟩=some (.slice Ka a.ks.len capa)∧wx.cell? ⟨bk,ok+5,none⟩=some (.int .i64 b.k)∧wx.cell? ⟨bk,ok+5+1,none⟩=some (.int .i64 b.n)∧wx.cell? ⟨bk,ok+5+2,none⟩=some (.int .i64 b.p)∧wx.cell? ⟨bk,ok+5+3,none⟩=some (.int .i64 b.c)∧wx.cell? ⟨bk,ok+5+4,none⟩=some (.slice Kb b.ks.len capb)) (i:=2) (v:=?va2) hB rfl (by decide) (by kernel_rfl) (by kernel_rfl) (fun _ _ _ h=>h) (Or.inl ⟨by rfl, ?ya2⟩) hHeld ?ra2
 case ya2=>((intro w hSw;(try dsimp only at hSw);go_simp)<;>with_reducible rfl)
 (try simp only [Act.put,List.setIfInBounds_toArray,List.set_cons_zero,List.set_cons_succ])
 refine RegE.takeL (S:=fun wx=>wx.cell? ⟨w.heap.size,4,none⟩=some (.slice (some ⟨bk,ok,none⟩) x.ks.len cap)∧wx.cell? ⟨bk,ok,none⟩=some (.int .i64 a.k)∧wx.cell? ⟨bk,ok+1,none⟩=some (.int .i64 a.n)∧wx.cell? ⟨bk,ok+2,none⟩=some (.int .i64 a.p)∧wx.cell? ⟨bk,ok+3,none⟩=some (.int .i64 a.c)∧wx.cell? ⟨bk,ok+4,none⟩=some (.slice Ka a.ks.len capa)∧wx.cell? ⟨bk,ok+5,none⟩=some (.int .i64 b.k)∧wx.cell? ⟨bk,ok+5+1,none⟩=some (.int .i64 b.n)∧wx.cell? ⟨bk,ok+5+2,none⟩=some (.int .i64 b.p)∧wx.cell? ⟨bk,ok+5+3,none⟩=some (.int .i64 b.c)∧wx.cell? ⟨bk,ok+5+4,none⟩=some (.slice Kb b.ks.len capb)) (i:=3) (v:=?va3) hB rfl (by decide) (by kernel_rfl) (by kernel_rfl) (fun _ _ _ h=>h) (Or.inl ⟨by rfl, ?ya3⟩) hHeld ?ra3
 case ya3=>((intro w hSw;(try dsimp only at hSw);go_simp)<;>with_reducible rfl)
 (try simp only [Act.put,List.setIfInBounds_toArray,List.set_cons_zero,List.set_cons_succ])
 refine RegE.takeL (S:=fun wx=>wx.cell? ⟨w.heap.size,4,none⟩=some (.slice (some ⟨bk,ok,none⟩) x.ks.len cap)∧wx.cell? ⟨bk,ok,none⟩=some (.int .i64 a.k)∧wx.cell? ⟨bk,ok+1,none⟩=some (.int .i64 a.n)∧wx.cell? ⟨bk,ok+2,none⟩=some (.int .i64 a.p)∧wx.cell? ⟨bk,ok+3,none⟩=some (.int .i64 a.c)∧wx.cell? ⟨bk,ok+4,none⟩=some (.slice Ka a.ks.len capa)∧wx.cell? ⟨bk,ok+5,none⟩=some (.int .i64 b.k)∧wx.cell? ⟨bk,ok+5+1,none⟩=some (.int .i64 b.n)∧wx.cell? ⟨bk,ok+5+2,none⟩=some (.int .i64 b.p)∧wx.cell? ⟨bk,ok+5+3,none⟩=some (.int .i64 b.c)∧wx.cell? ⟨bk,ok+5+4,none⟩=some (.slice Kb b.ks.len capb)) (i:=4) (v:=?va4) hB rfl (by decide) (by kernel_rfl) (by kernel_rfl) (fun _ _ _ h=>h) (Or.inl ⟨by rfl, ?ya4⟩) hHeld ?ra4
 case ya4=>((intro w hSw;(try dsimp only at hSw);go_simp)<;>with_reducible rfl)
 (try simp only [Act.put,List.setIfInBounds_toArray,List.set_cons_zero,List.set_cons_succ])
 refine RegE.takeL (S:=fun wx=>wx.cell? ⟨w.heap.size,4,none⟩=some (.slice (some ⟨bk,ok,none⟩) x.ks.len cap)∧wx.cell? ⟨bk,ok,none⟩=some (.int .i64 a.k)∧wx.cell? ⟨bk,ok+1,none⟩=some (.int .i64 a.n)∧wx.cell? ⟨bk,ok+2,none⟩=some (.int .i64 a.p)∧wx.cell? ⟨bk,ok+3,none⟩=some (.int .i64 a.c)∧wx.cell? ⟨bk,ok+4,none⟩=some (.slice Ka a.ks.len capa)∧wx.cell? ⟨bk,ok+5,none⟩=some (.int .i64 b.k)∧wx.cell? ⟨bk,ok+5+1,none⟩=some (.int .i64 b.n)∧wx.cell? ⟨bk,ok+5+2,none⟩=some (.int .i64 b.p)∧wx.cell? ⟨bk,ok+5+3,none⟩=some (.int .i64 b.c)∧wx.cell? ⟨bk,ok+5+4,none⟩=some (.slice Kb b.ks.len capb)) (i:=5) (v:=?va5) hB rfl (by decide) (by kernel_rfl) (by kernel_rfl) (fun _ _ _ h=>h) (Or.inl ⟨by rfl, ?ya5⟩) hHeld ?ra5
 case ya5=>((intro w hSw;(try dsimp only at hSw);go_simp)<;>with_reducible rfl)
 (try simp only [Act.put,List.setIfInBounds_toArray,List.set_cons_zero,List.set_cons_succ])
 refine RegE.takeL (S:=fun wx=>wx.cell? ⟨w.heap.size,4,none⟩=some (.slice (some ⟨bk,ok,none⟩) x.ks.len cap)∧wx.cell? ⟨bk,ok,none⟩=some (.int .i64 a.k)∧wx.cell? ⟨bk,ok+1,none⟩=some (.int .i64 a.n)∧wx.cell? ⟨bk,ok+2,none⟩=some (.int .i64 a.p)∧wx.cell? ⟨bk,ok+3,none⟩=some (.int .i64 a.c)∧wx.cell? ⟨bk,ok+4,none⟩=some (.slice Ka a.ks.len capa)∧wx.cell? ⟨bk,ok+5,none⟩=some (.int .i64 b.k)∧wx.cell? ⟨bk,ok+5+1,none⟩=some (.int .i64 b.n)∧wx.cell? ⟨bk,ok+5+2,none⟩=some (.int .i64 b.p)∧wx.cell? ⟨bk,ok+5+3,none⟩=some (.int .i64 b.c)∧wx.cell? ⟨bk,ok+5+4,none⟩=some (.slice Kb b.ks.len capb)) (i:=7) (v:=?va7) hB rfl (by decide) (by kernel_rfl) (by kernel_rfl) (fun _ _ _ h=>h) (Or.inl ⟨by rfl, ?ya7⟩) hHeld ?ra7
 case ya7=>((intro w hSw;(try dsimp only at hSw);go_simp)<;>with_reducible rfl)
 (try simp only [Act.put,List.setIfInBounds_toArray,List.set_cons_zero,List.set_cons_succ])
 refine RegE.takeL (S:=fun wx=>wx.cell? ⟨w.heap.size,4,none⟩=some (.slice (some ⟨bk,ok,none⟩) x.ks.len cap)∧wx.cell? ⟨bk,ok,none⟩=some (.int .i64 a.k)∧wx.cell? ⟨bk,ok+1,none⟩=some (.int .i64 a.n)∧wx.cell? ⟨bk,ok+2,none⟩=some (.int .i64 a.p)∧wx.cell? ⟨bk,ok+3,none⟩=some (.int .i64 a.c)∧wx.cell? ⟨bk,ok+4,none⟩=some (.slice Ka a.ks.len capa)∧wx.cell? ⟨bk,ok+5,none⟩=some (.int .i64 b.k)∧wx.cell? ⟨bk,ok+5+1,none⟩=some (.int .i64 b.n)∧wx.cell? ⟨bk,ok+5+2,none⟩=some (.int .i64 b.p)∧wx.cell? ⟨bk,ok+5+3,none⟩=some (.int .i64 b.c)∧wx.cell? ⟨bk,ok+5+4,none⟩=some (.slice Kb b.ks.len capb)) (i:=8) (v:=?va8) hB rfl (by decide) (by kernel_rfl) (by kernel_rfl) (fun _ _ _ h=>h) (Or.inl ⟨by rfl, ?ya8⟩) hHeld ?ra8
 case ya8=>((intro w hSw;(try dsimp only at hSw);go_simp)<;>with_reducible rfl)
 (try simp only [Act.put,List.setIfInBounds_toArray,List.set_cons_zero,List.set_cons_succ])
 refine RegE.takeL (S:=fun wx=>wx.cell? ⟨w.heap.size,4,none⟩=some (.slice (some ⟨bk,ok,none⟩) x.ks.len cap)∧wx.cell? ⟨bk,ok,none⟩=some (.int .i64 a.k)∧wx.cell? ⟨bk,ok+1,none⟩=some (.int .i64 a.n)∧wx.cell? ⟨bk,ok+2,none⟩=some (.int .i64 a.p)∧wx.cell? ⟨bk,ok+3,none⟩=some (.int .i64 a.c)∧wx.cell? ⟨bk,ok+4,none⟩=some (.slice Ka a.ks.len capa)∧wx.cell? ⟨bk,ok+5,none⟩=some (.int .i64 b.k)∧wx.cell? ⟨bk,ok+5+1,none⟩=some (.int .i64 b.n)∧wx.cell? ⟨bk,ok+5+2,none⟩=some (.int .i64 b.p)∧wx.cell? ⟨bk,ok+5+3,none⟩=some (.int .i64 b.c)∧wx.cell? ⟨bk,ok+5+4,none⟩=some (.slice Kb b.ks.len capb)) (i:=9) (v:=?va9) hB rfl (by decide) (by kernel_rfl) (by kernel_rfl) (fun _ _ _ h=>h) (Or.inl ⟨by rfl, ?ya9⟩) hHeld ?ra9
 case ya9=>((intro w hSw;(try dsimp only at hSw);go_simp)<;>with_reducible rfl)
 (try simp only [Act.put,List.setIfInBounds_toArray,List.set_cons_zero,List.set_cons_succ])
 refine RegE.takeL (S:=fun wx=>wx.cell? ⟨w.heap.size,4,none⟩=some (.slice (some ⟨bk,ok,none⟩) x.ks.len cap)∧wx.cell? ⟨bk,ok,none⟩=some (.int .i64 a.k)∧wx.cell? ⟨bk,ok+1,none⟩=some (.int .i64 a.n)∧wx.cell? ⟨bk,ok+2,none⟩=some (.int .i64 a.p)∧wx.cell? ⟨bk,ok+3,none⟩=some (.int .i64 a.c)∧wx.cell? ⟨bk,ok+4,none⟩=some (.slice Ka a.ks.len capa)∧wx.cell? ⟨bk,ok+5,none⟩=some (.int .i64 b.k)∧wx.cell? ⟨bk,ok+5+1,none⟩=some (.int .i64 b.n)∧wx.cell? ⟨bk,ok+5+2,none⟩=some (.int .i64 b.p)∧wx.cell? ⟨bk,ok+5+3,none⟩=some (.int .i64 b.c)∧wx.cell? ⟨bk,ok+5+4,none⟩=some (.slice Kb b.ks.len capb)) (i:=10) (v:=?va10) hB rfl (by decide) (by kernel_rfl) (by kernel_rfl) (fun _ _ _ h=>h) (Or.inl ⟨by rfl, ?ya10⟩) hHeld ?ra10
 case ya10=>((intro w hSw;(try dsimp only at hSw);go_simp)<;>with_reducible rfl)
 (try simp only [Act.put,List.setIfInBounds_toArray,List.set_cons_zero,List.set_cons_succ])
 refine RegE.takeL (S:=fun wx=>wx.cell? ⟨w.heap.size,4,none⟩=some (.slice (some ⟨bk,ok,none⟩) x.ks.len cap)∧wx.cell? ⟨bk,ok,none⟩=some (.int .i64 a.k)∧wx.cell? ⟨bk,ok+1,none⟩=some (.int .i64 a.n)∧wx.cell? ⟨bk,ok+2,none⟩=some (.int .i64 a.p)∧wx.cell? ⟨bk,ok+3,none⟩=some (.int .i64 a.c)∧wx.cell? ⟨bk,ok+4,none⟩=some (.slice Ka a.ks.len capa)∧wx.cell? ⟨bk,ok+5,none⟩=some (.int .i64 b.k)∧wx.cell? ⟨bk,ok+5+1,none⟩=some (.int .i64 b.n)∧wx.cell? ⟨bk,ok+5+2,none⟩=some (.int .i64 b.p)∧wx.cell? ⟨bk,ok+5+3,none⟩=some (.int .i64 b.c)∧wx.cell? ⟨bk,ok+5+4,none⟩=some (.slice Kb b.ks.len capb)) (i:=11) (v:=?va11) hB rfl (by decide) (by kernel_rfl) (by kernel_rfl) (fun _ _ _ h=>h) (Or.inl ⟨by rfl, ?ya11⟩) hHeld ?ra11
 case ya11=>((intro w hSw;(try dsimp only at hSw);go_simp)<;>with_reducible rfl)
 (try simp only [Act.put,List.setIfInBounds_toArray,List.set_cons_zero,List.set_cons_succ])
 refine RegE.takeL (S:=fun wx=>wx.cell? ⟨w.heap.size,4,none⟩=some (.slice (some ⟨bk,ok,none⟩) x.ks.len cap)∧wx.cell? ⟨bk,ok,none⟩=some (.int .i64 a.k)∧wx.cell? ⟨bk,ok+1,none⟩=some (.int .i64 a.n)∧wx.cell? ⟨bk,ok+2,none⟩=some (.int .i64 a.p)∧wx.cell? ⟨bk,ok+3,none⟩=some (.int .i64 a.c)∧wx.cell? ⟨bk,ok+4,none⟩=some (.slice Ka a.ks.len capa)∧wx.cell? ⟨bk,ok+5,none⟩=some (.int .i64 b.k)∧wx.cell? ⟨bk,ok+5+1,none⟩=some (.int .i64 b.n)∧wx.cell? ⟨bk,ok+5+2,none⟩=some (.int .i64 b.p)∧wx.cell? ⟨bk,ok+5+3,none⟩=some (.int .i64 b.c)∧wx.cell? ⟨bk,ok+5+4,none⟩=some (.slice Kb b.ks.len capb)) (i:=12) (v:=?va12) hB rfl (by decide) (by kernel_rfl) (by kernel_rfl) (fun _ _ _ h=>h) (Or.inl ⟨by rfl, ?ya12⟩) hHeld ?ra12
 case ya12=>((intro w hSw;(try dsimp only at hSw);go_simp)<;>with_reducible rfl)
 (try simp only [Act.put,List.setIfInBounds_toArray,List.set_cons_zero,List.set_cons_succ])
 refine RegE.stepL (i:=6) rfl (by decide) (by kernel_rfl) (fun K hK=>?_)
 go_simp
 go_at_call 234
 refine (HCL.out _).mono ?_
 rintro e w' ⟨rfl,rfl⟩
 refine hK.out _ _ ?Sa6 (fun hHeldN=>?_)
 case Sa6=>((try dsimp only);exact HSD.out)
 clear hK K hHeld
 have hHeld:=hHeldN
 clear hHeldN
 (try simp only [Act.put,List.setIfInBounds_toArray,List.set_cons_zero,List.set_cons_succ])
 refine RegE.stepL (i:=13) rfl (by decide) (by kernel_rfl) (fun K hK=>?_)
 go_simp
 go_at_call 176
 refine HV0.out.mono ?_
 rintro e w1 ⟨Az,cz,ts,s',c',ps,rfl,hO1,hmid,hS1,hres⟩
 refine hK.out _ _ ?Sa13 (fun hHeldN=>?_)
 case Sa13=>((try dsimp only);exact letKeep HS0.out hO1 hWl hg9 hkW hk9)
 clear hK K hHeld
 have hHeld:=hHeldN
 clear hHeldN
 (try simp only [Act.put,List.setIfInBounds_toArray,List.set_cons_zero,List.set_cons_succ])
 refine RegE.stepL (i:=14) rfl (by decide) (by kernel_rfl) (fun K hK=>?_)
 go_simp
 refine hK.out _ _ ?Sa14 (fun hHeldN=>?_)
 case Sa14=>((try dsimp only);exact letKeep HS0.out (hO1.trans (Only.of_below (by go_grown))) hWl hg9 hkW hk9)
 clear hK K hHeld
 have hHeld:=hHeldN
 clear hHeldN
 (try simp only [Act.put,List.setIfInBounds_toArray,List.set_cons_zero,List.set_cons_succ])
 refine RegE.stepL (i:=15) rfl (by decide) (by kernel_rfl) (fun K hK=>?_)
 refine step_append_grows rfl (.tmp 89) (.tmp 97) 162 rfl 86 i0 (.agg #[.int .i64 0,.slice none 0 0]) 2 32 Tryz.underlying162 hi hz0 hz1 hz2 rfl (by decide) A env.length env.length (ps.flatMap (poD u)) (by simp [Act.eval]) (fun h=>⟨hmid.nil h,hmid.nil h⟩) hmid.num hmid.holds ⟨w1.heap.size,0,none⟩ 1 1 [.int .i64 u,.slice Az ts.length cz] (by simp [Act.eval]) rfl hmid.news (by intro v hv;simp only [List.mem_cons,List.not_mem_nil,or_false] at hv;rcases hv with rfl | rfl<;>rfl) (by omega) HB1.out.1 HB1.out.2 ?_
 intro v2 w2 hown hgrow
 obtain ⟨A2,c2,rfl,q1,q2,q3,hO2,hS2⟩:=letMoreP hmid hown hgrow hO1 hS1 HSLT.out
 refine hK.out _ _ ?Sa15 (fun hHeldN=>?_)
 case Sa15=>((try dsimp only);exact letKeep HS0.out hO2 hWl hg9 hkW hk9)
 clear hK K hHeld
 have hHeld:=hHeldN
 clear hHeldN
 (try simp only [Act.put,List.setIfInBounds_toArray,List.set_cons_zero,List.set_cons_succ])
 refine RegE.stepL (i:=16) rfl (by decide) (by kernel_rfl) (fun K hK=>?_)
 go_simp
 go_at_call 176
 refine (HV1.out A2 c2 w2 ts s' c' hO2 hS2 hres q3 q1 q2).mono ?_
 rintro e w3 ⟨A3,n3,cp3,rfl,hEnd,hO3⟩
 refine hK.out _ _ ?Sa16 (fun hHeldN=>?_)
 case Sa16=>((try dsimp only);exact letKeep HS0.out hO3 hWl hg9 hkW hk9)
 clear hK K hHeld
 have hHeld:=hHeldN
 clear hHeldN
 (try simp only [Act.put,List.setIfInBounds_toArray,List.set_cons_zero,List.set_cons_succ])
 obtain ⟨⟨k0,k1,q0,q1'⟩,⟨y0,y1⟩,HE2⟩:=hEnd
 refine RegE.lastL rfl (by kernel_rfl) (by kernel_rfl) (fun K hK=>?_)
 go_simp
 refine hK.out _ _ ?_
 clear hK K
 have HE3:=hid HE2
 clear HE2 hO1 hO2 hO3 hmid hS1 hS2 hres hown hgrow q1 q2 q3
 go_wp2
 refine bodyPost_ret (v:=poV u A3 n3 cp3) (by simp [results,Tryz.results176,go_sem,y0,y1]) rfl ?_
 exact HE3.out
end
section
open Go.RowKit Plain
theorem minusOne_any (u:Int) (w:World) (h0:0≤u) (h1:u≤12):Calls Tryz.prog 135 #[.int .i64 u,.int .i64 1000002] w fun e w'=>∃ A cp,e=.returned (.agg #[.int .i64 u,.slice A 1 cp])∧(∀ S:Nat→Prop,(∀ q,S q→q<w.heap.size)→PAt w' S A (constT u 1000002))∧Below w.heap.size w w':=by
 refine (constantPoly_any u 1000002 w h0 h1 (by omega) (by omega)).mono ?_
 rintro e w' ⟨A,cp,rfl,hR,hb⟩
 have hl:(constT u 1000002).length=1:=by rw [constT_one (by omega)];rfl
 exact ⟨A,cp,by rw [hl],fun S hS=>PAt.of hR (polyOk_totT (zeroE_ok h0 h1)) hS,hb⟩
theorem LsInP.of {w w':World} {B g:Nat} {S:Nat→Prop} {u:Int} {P:List Fn} {fn:Int} {x:Nd} {K:Option Addr} {cap:Nat} {A:Option Addr} {env:List (List Term')} {ecap:Nat} (h:NdInP w B S u P fn x K cap A env ecap) (ho:Only S w w') (hb:Below B w w') (hg:w.heap.size≤g) (hk:x.k≠9):LsInP w' B (privS S g) u P fn x.ks K cap A env ecap:=
 ⟨h.kids.below hb,h.kl,h.km,h.envA.fresh ho hg,h.el,h.em,h.big,h.size,fun j y hy=>by have:=formed_kids h.form hy;rwa [kidVars_ne hk] at this,h.f0,h.f1⟩
structure OpSt (w W:World) (B:Nat) (S:Nat→Prop) (bv:Nat) (u:Int) (P:List Fn) (PA:Option Addr) (pcap t1:Nat) (k n p c:Int) (K:Option Addr) (len cap:Nat) (A1:Option Addr) (tss:List (List Term')) (bm:Nat) (Am:Option Addr) (cm:Nat):Prop where
 ev:EvIn W B bv 1 P PA pcap
 si:SIn W B (privS S (w.heap.size+1)) bv u
 st:Cells W bv 168 (hdP u P PA pcap++[.int .i64 t1,.int .i64 0])
 only:Only (fun q=>q=bv) w W
 bx:Cells W w.heap.size 33 [.int .i64 k,.int .i64 n,.int .i64 p,.int .i64 c,.slice K len cap]
 rb:Cells W (w.heap.size+1) 86 [.int .i64 0,.slice none 0 0]
 env:PEnv W (privS S (w.heap.size+1)) u A1 tss
 mb:Cells W bm 86 [.int .i64 u,.slice Am 1 cm]
 mp:PAt W (privS S (w.heap.size+1)) Am (constT u 1000002)
 ml:w.heap.size+2≤bm
theorem opSt {w W0 w1 w2:World} {B:Nat} {S:Nat→Prop} {bv:Nat} {u:Int} {P:List Fn} {PA:Option Addr} {pcap s t1:Nat} {k n p c:Int} {K:Option Addr} {len cap:Nat} {A1:Option Addr} {tss:List (List Term')} {Am:Option Addr} {cm:Nat} (hE:PvSt w W0 B S bv u P PA pcap s k n p c K len cap) (al:bv<w.heap.size) (hS1:Cells w1 bv 168 (hdP u P PA pcap++[.int .i64 t1,.int .i64 0])) (hO1:Only (fun q=>q=bv) W0 w1) (hEn:PEnv w1 (privS S (w.heap.size+1)) u A1 tss)
  (hp2:∀ S:Nat→Prop,(∀ q,S q→q<w1.heap.size)→PAt w2 S Am (constT u 1000002)) (hb2:Below w1.heap.size w1 w2):OpSt w (w2.alloc (.cells #[.int .i64 u,.slice Am 1 cm] 86)) B S bv u P PA pcap t1 k n p c K len cap A1 tss w2.heap.size Am cm:=by
 have hg:Below w2.heap.size w2 (w2.alloc (.cells #[.int .i64 u,.slice Am 1 cm] 86)):=by go_grown
 have hb3:Below w1.heap.size w1 (w2.alloc (.cells #[.int .i64 u,.slice Am 1 cm] 86)):=hb2.trans (hg.mono hb2.size)
 have hO2:Only (fun q=>q=bv) w1 (w2.alloc (.cells #[.int .i64 u,.slice Am 1 cm] 86)):=Only.of_below hb3
 have hO3:=hO1.trans hO2
 have s0:=hE.size
 have s1:=hO1.size
 have s2:=hb2.size
 exact ⟨hE.ev.only hO3,hE.si.mono hO3.size,hS1.next hb3,hE.only.trans hO3,only_cells hE.bx hO3 (by omega),only_cells hE.rb hO3 (by omega),hEn.only (Only.of_below hb3),Cells.new w2 _ _,(hp2 _ fun q e=>by have:=hE.si.lt q e;omega).only (Only.of_below hg),by omega⟩
theorem OpSt.only2 {w W W2:World} {B:Nat} {S:Nat→Prop} {bv:Nat} {u:Int} {P:List Fn} {PA:Option Addr} {pcap t1:Nat} {k n p c:Int} {K:Option Addr} {len cap:Nat} {A1:Option Addr} {tss:List (List Term')} {bm:Nat} {Am:Option Addr} {cm:Nat} (h:OpSt w W B S bv u P PA pcap t1 k n p c K len cap A1 tss bm Am cm) (al:bv<w.heap.size) (ho:Only (fun q=>q=bv) W W2) (hst:Cells W2 bv 168 (hdP u P PA pcap++[.int .i64 t1,.int .i64 0])):OpSt w W2 B S bv u P PA pcap t1 k n p c K len cap A1 tss bm Am cm:=
 ⟨h.ev.only ho,h.si.mono ho.size,hst,h.only.trans ho,only_cells h.bx ho (by omega),only_cells h.rb ho (by omega),h.env.only (ho.sub fun q e=>by rw [e];exact h.si.bv),only_cells h.mb ho (by have:=h.ml;omega),h.mp.only (ho.sub fun q e=>by rw [e];exact h.si.bv),h.ml⟩
theorem deadP {w w1:World} {S:Nat→Prop} {bv:Nat} {u:Int} {P:List Fn} {PA:Option Addr} {pcap:Nat} {rr:Res (List Term')} {s' c':Int} (hS1:Cells w1 bv 168 (hdP u P PA pcap++[.int .i64 s',.int .i64 c'])) (ho:Only (fun q=>q=bv) w w1) (hrr:rr=.err c') (u0:0≤u) (u1:u≤12) (al:bv<w.heap.size) (hq:Cells w1 (w.heap.size+1) 86 [.int .i64 0,.slice none 0 0]):LetEnd S bv u P PA pcap rr w w1 none 0 0:=
 polyEnd (ts:=[]) (PAt.nil _ _ _) (nilOk u0 u1) hS1 ho (by rw [hrr];rfl) al hq
def VaC (S:Nat→Prop) (bv:Nat) (u:Int) (P:List Fn) (PA:Option Addr) (pcap:Nat) (rr:Res (List Term')) (w w3:World) (A3:Option Addr) (n3 c3:Nat):Prop:=
 Calls Tryz.prog 235 #[.pointer (some ⟨bv,0,none⟩),.agg #[.int .i64 u,.slice A3 n3 c3]] w3 fun e w4=>∃ A4 n4 c4,e=.returned (.agg #[.int .i64 u,.slice A4 n4 c4])∧LetEnd S bv u P PA pcap rr w w4 A4 n4 c4∧Only (fun q=>q=bv) w3 w4∧w4.cell? ⟨bv,1,none⟩=some (.int .i64 u)
theorem vaC {w W w3:World} {B:Nat} {S:Nat→Prop} {bv:Nat} {u:Int} {P:List Fn} {PA:Option Addr} {pcap t1:Nat} {k n p c:Int} {K:Option Addr} {len cap:Nat} {A1:Option Addr} {tss:List (List Term')} {bm:Nat} {Am:Option Addr} {cm lo:Nat} {A3:Option Addr} {c3:Nat} {R:List Term'} {rr:Res (List Term')} (h:OpSt w W B S bv u P PA pcap t1 k n p c K len cap A1 tss bm Am cm) (al:bv<w.heap.size) (hb:Below W.heap.size W w3) (hR:RT w3 lo w3.heap.size A3 R) (hlo:W.heap.size≤lo) (hl:R.length≤1048576) (ht:totT R≤1048576) (hrr:rr=limT u R t1):VaC S bv u P PA pcap rr w w3 A3 R.length c3:=by
 refine (validI_any P u t1 (privS S (w.heap.size+1)) bv pcap c3 PA A3 R w3 (h.st.next hb) (PAt.of hR (by omega) (fun q e=>by have:=h.si.lt q e;omega)) h.si.u0 h.si.u1 hl ht).mono ?_
 rintro e w4 ⟨v,ts4,s4,c4',rfl,⟨A4,c4,rfl,hp4,hk4⟩,hS4,hO4,hres⟩
 rw [←hrr] at hres
 exact ⟨A4,ts4.length,c4,rfl,polyEnd hp4 hk4 hS4 ((h.only.trans (Only.of_below hb)).trans hO4) hres al (only_cells (h.rb.next hb) hO4 (by omega)),hO4,by rw [hS4.cell];rfl⟩
theorem PEnv.two {w:World} {S:Nat→Prop} {u:Int} {A:Option Addr} {env:List (List Term')} (h:PEnv w S u A env) (h0:0<env.length):∃ b o A0 c0 A1 c1,A=some ⟨b,o,none⟩∧b<w.heap.size∧PAt w S A0 (env.getD 0 [])∧polyOk u (env.getD 0 [])=true∧(1<env.length→PAt w S A1 (env.getD 1 [])∧polyOk u (env.getD 1 [])=true) ∧
  ∀ w',OnlyH S w w'→w'.cell? ⟨b,o,none⟩=some (.int .i64 u)∧w'.cell? ⟨b,o+1,none⟩=some (.slice A0 (env.getD 0 []).length c0)∧(1<env.length→w'.cell? ⟨b,o+2,none⟩=some (.int .i64 u)∧w'.cell? ⟨b,o+2+1,none⟩=some (.slice A1 (env.getD 1 []).length c1)):=by
 obtain ⟨h1,b,o,f,hA,hf⟩:=h
 obtain ⟨hb,hc⟩:=hf w (OnlyH.refl _ _) h0
 have g0:env[0]? = some (env.getD 0 []):=by simp [List.getD,List.getElem?_eq_getElem h0]
 have g1:1<env.length→env[1]? = some (env.getD 1 []):=fun h=>by simp [List.getD,List.getElem?_eq_getElem h]
 refine ⟨b,o,(f 0).1,(f 0).2,(f 1).1,(f 1).2,hA h0,hb,fun w' ho=>((hf w' ho h0).2 0 _ g0).2.2,h1 _ (List.mem_of_getElem? g0),fun hl=>⟨fun w' ho=>((hf w' ho h0).2 1 _ (g1 hl)).2.2,h1 _ (List.mem_of_getElem? (g1 hl))⟩,fun w' ho=>?_⟩
 obtain ⟨_,hc'⟩:=hf w' ho h0
 have q0:=hc' 0 _ g0
 refine ⟨by simpa using q0.1,by simpa using q0.2.1,fun hl=>?_⟩
 have q1:=hc' 1 _ (g1 hl)
 exact ⟨by simpa using q1.1,by simpa using q1.2.1⟩
theorem callKeepP {w w':World} {bv g bP o2 bk o0:Nat} {vP vm vp v2 a0 a1 a2 a3 a4:Value} (h:w.cell? ⟨bv,0,none⟩=some vP∧w.cell? ⟨g,1,none⟩=some vm∧w.cell? ⟨g,2,none⟩=some vp∧w.cell? ⟨bP,o2,none⟩=some v2∧w.cell? ⟨bk,o0,none⟩=some a0∧w.cell? ⟨bk,o0+1,none⟩=some a1∧w.cell? ⟨bk,o0+2,none⟩=some a2∧w.cell? ⟨bk,o0+3,none⟩=some a3∧w.cell? ⟨bk,o0+4,none⟩=some a4)
  (ho:Only (fun q=>q=bv) w w') (hC:w'.cell? ⟨bv,0,none⟩=some vP) (hg:g<w.heap.size) (hgn:g≠bv) (hP:bP<w.heap.size) (hPn:bP≠bv) (hk:bk<w.heap.size) (hkn:bk≠bv) :
  w'.cell? ⟨bv,0,none⟩=some vP∧w'.cell? ⟨g,1,none⟩=some vm∧w'.cell? ⟨g,2,none⟩=some vp∧w'.cell? ⟨bP,o2,none⟩=some v2∧w'.cell? ⟨bk,o0,none⟩=some a0∧w'.cell? ⟨bk,o0+1,none⟩=some a1∧w'.cell? ⟨bk,o0+2,none⟩=some a2∧w'.cell? ⟨bk,o0+3,none⟩=some a3∧w'.cell? ⟨bk,o0+4,none⟩=some a4:=by
 obtain ⟨_,h1,h2,h3,h4,h5,h6,h7,h8⟩:=h
 exact ⟨hC,(ho.cell (a:=⟨g,_,none⟩) hg hgn).trans h1,(ho.cell (a:=⟨g,_,none⟩) hg hgn).trans h2,(ho.cell (a:=⟨bP,_,none⟩) hP hPn).trans h3,(ho.cell (a:=⟨bk,_,none⟩) hk hkn).trans h4,(ho.cell (a:=⟨bk,_,none⟩) hk hkn).trans h5,(ho.cell (a:=⟨bk,_,none⟩) hk hkn).trans h6,(ho.cell (a:=⟨bk,_,none⟩) hk hkn).trans h7,(ho.cell (a:=⟨bk,_,none⟩) hk hkn).trans h8⟩
theorem poly_call (P:List Fn) (m pi:Nat) (xc:Int) (ks:Es) (u:Int) (f:Nat) (IH:PolyC P u f) (env:List (List Term')) (t:Nat) (fn:Int) (K:Option Addr) (cap B:Nat) (S:Nat→Prop) (bv:Nat) (A PA:Option Addr) (ecap pcap:Nat) (w:World) (hI:EvIn w B bv 1 P PA pcap) (hS:SIn w B S bv u) (hst:Cells w bv 168 (hdP u P PA pcap++[.int .i64 t,.int .i64 0])) (hN:NdInP w B S u P fn ⟨10,m,pi,xc,ks⟩ K cap A env ecap) (g:Fn) (y:Nd) (hC:CallIn P m pi xc ks 10 g y) (hs:t<3000) (hf:3001≤t+(f+1)) :
  Calls Tryz.prog 176 #[.pointer (some ⟨bv,0,none⟩),exV 10 m pi xc K ks.len cap,.slice A env.length ecap] w (PPost S bv u 168 (hdP u P PA pcap) (pv u P (f+1) ⟨10,m,pi,xc,ks⟩ env t) w):=by
 have HEV:Hid (pv u P (f+1) ⟨10,m,pi,xc,ks⟩ env t=match pvAll (pv u P f) env ks (t+1) with | .err e=>.err e | .ok zs s1=>pv u P f y zs s1):=by
  show _=_
  rw [pv,if_neg (by omega),if_neg (by show ¬ (10:Int)=1;omega),if_neg (by show ¬ (10:Int)=2;omega),if_neg (by show ¬ (10:Int)=8;omega),if_neg (by show ¬ (10:Int)=9;omega)]
  cases pvAll (pv u P f) env ks (t+1) with
  | err e=>rfl
  | ok zs s1=>simp only;rw [if_pos trivial,show P[(m:Int).toNat]? = some g from hC.fn];simp only [Int.toNat_natCast,hC.out]
 obtain ⟨rr,hrr⟩:∃ rr,rr=pv u P (f+1) ⟨10,m,pi,xc,ks⟩ env t:=⟨_,rfl⟩
 rw [←hrr]
 have HRR:=hid (hrr.trans HEV.out)
 clear HEV hrr
 have HALL:=hid (polyAll_of P u f IH)
 have al:=hI.lt
 have hB:=hI.blow
 have u0:=hS.u0
 have u1:=hS.u1
 have a1:w.cell? ⟨bv,1,none⟩=some (.int .i64 u):=by rw [hst.cell];rfl
 have a2:w.cell? ⟨bv,2,none⟩=some (.int .i64 t):=by rw [hst.cell];rfl
 have a3:w.cell? ⟨bv,3,none⟩=some (.int .i64 0):=by rw [hst.cell];rfl
 have z2:w.frozen? ⟨bv,2,none⟩=false:=hst.frozen _
 have e1:((t:Int)==3000)=false:=by simp;omega
 have hE:=pvStep hI hS hst 10 m pi xc K ks.len cap
 have hoS:Only S w (pvW w bv t 10 m pi xc K ks.len cap):=hE.only.sub fun q e=>by rw [e];exact hS.bv
 have HLS:=hid (LsInP.of (g:=w.heap.size+1) hN hoS (only_below hE.only hB al) (by omega) (by show (10:Int)≠9;omega))
 have HE:=hid hE
 have HN:=hid hN
 have HSI:=hid hS
 have HIH:=hid IH
 have HC:=hid hC
 clear hC
 clear hI hst hE hN hS IH hoS
 go_enter Tryz.func176,Tryz.ntmps176
 go_wp2_with fail
 refine (HALL.out ks env ((t+1:Nat):Int) (t+1) 0 fn K cap B (privS S (w.heap.size+1)) bv A PA ecap pcap _ HE.out.ev HE.out.si HE.out.st (fun _=>⟨rfl,by omega,by omega⟩) HLS.out).mono ?_;rintro e w1 ⟨A1,cp,tss,s',c',rfl,hl,hcp,hcm,hEn,hS1,hO1,hres⟩
 have c3:w1.cell? ⟨bv,3,none⟩=some (.int .i64 c'):=by rw [hS1.cell];rfl
 have c1:w1.cell? ⟨bv,1,none⟩=some (.int .i64 u):=by rw [hS1.cell];rfl
 have cl:=hS1.lt
 have HS1:=hid hS1
 have HO1:=hid hO1
 have HEN:=hid hEn
 have HL:=hid hl
 have HRES:=hid hres
 clear hS1 hO1 hEn hres
 by_cases hc:c'=0
 ·have hRES:=pvAC_next HRES.out hc
  subst hc
  obtain ⟨t1,hs1,_,ht1,hev⟩:=hRES.2
  subst hs1
  have HEV:=hid hev
  have HT1:Hid (t1≤3000):=ht1 (by omega)
  have HT2:Hid (t<t1):=by show _<_;omega
  clear hRES hev ht1 HRES
  go_wp2_with fail
  refine (minusOne_any u w1 u0 u1).mono ?_;rintro e w2 ⟨Am,cm,rfl,hp2,hb2⟩
  have HM:=hid (opSt (cm:=cm) HE.out al HS1.out HO1.out HEN.out hp2 hb2)
  clear hp2 hb2 HALL HLS HS1 HO1 HEN c1 c3 cl
  obtain ⟨bP,oP,KF,cF,bk,ok,rfl,hbP,g2,hcF,hmF,rfl,hKo,hEy⟩:=outAt HM.out.ev.prog HC.out.fn HC.out.out
  obtain ⟨Ky,capy,hbk,q0,q1,q2,q3,q4,qc,qm,qk⟩:=hEy.cells
  have hml:m<P.length:=(List.getElem?_eq_some_iff.1 HC.out.fn).1
  have hml2:(m:Int)<(P.length:Int):=by omega
  have hpl:pi<g.outs.len:=Es.get?_lt HC.out.out
  have hpl2:(pi:Int)<(g.outs.len:Int):=by omega
  have hYF:=HC.out.each pi y HC.out.out
  have v0:(w2.alloc (.cells #[.int .i64 u,.slice Am 1 cm] 86)).cell? ⟨bv,0,none⟩=some (.slice (some ⟨bP,oP,none⟩) P.length pcap):=by rw [HM.out.st.cell];rfl
  have x0:(w2.alloc (.cells #[.int .i64 u,.slice Am 1 cm] 86)).cell? ⟨w.heap.size,0,none⟩=some (.int .i64 10):=by rw [HM.out.bx.cell];rfl
  have x1:(w2.alloc (.cells #[.int .i64 u,.slice Am 1 cm] 86)).cell? ⟨w.heap.size,1,none⟩=some (.int .i64 m):=by rw [HM.out.bx.cell];rfl
  have x2:(w2.alloc (.cells #[.int .i64 u,.slice Am 1 cm] 86)).cell? ⟨w.heap.size,2,none⟩=some (.int .i64 pi):=by rw [HM.out.bx.cell];rfl
  have HS0:=hid (And.intro v0 (And.intro x1 (And.intro x2 (And.intro g2 (And.intro q0 (And.intro q1 (And.intro q2 (And.intro q3 q4))))))))
  have HQK:=hid qk
  have HYF:=hid hYF
  clear v0 x1 x2 g2 q0 q1 q2 q3 q4 hKo hEy hYF qk
  go_upto_region 24 with fail
  change Code.wp _ _ _ _ (w2.alloc (.cells #[.int .i64 u,.slice Am 1 cm] 86))
  generalize w2.alloc (.cells #[.int .i64 u,.slice Am 1 cm] 86)=W at *
  have hd:Only (fun q=>q=bv) W W.drew:=(Only.refl _ W).drewN 1
  have hbvW:bv<W.heap.size:=HM.out.ev.lt
  have hWl:w.heap.size<W.heap.size:=HM.out.bx.lt
  have hg9:w.heap.size≠bv:=by omega
  have hBW:B≤W.heap.size:=by have:=HM.out.only.size;omega
  have hbkW:bk<W.heap.size:=by omega
  have hbk9:bk≠bv:=by omega
  have hbPW:bP<W.heap.size:=by omega
  have hbP9:bP≠bv:=by omega
  have HCALL:Hid (Calls Tryz.prog 176 #[.pointer (some ⟨bv,0,none⟩),exV y.k y.n y.p y.c Ky y.ks.len capy,.slice A1 ks.len cp] W.drew fun e w3=>∃ A3 n3 cp3,e=.returned (.agg #[.int .i64 u,.slice A3 n3 cp3])∧LetEnd S bv u P (some ⟨bP,oP,none⟩) pcap rr w w3 A3 n3 cp3∧Only (fun q=>q=bv) W w3∧w3.cell? ⟨bv,0,none⟩=some (.slice (some ⟨bP,oP,none⟩) P.length pcap)):=by
   have hz:=HIH.out y tss t1 t1 0 m Ky capy B (privS S (w.heap.size+1)) bv A1 (some ⟨bP,oP,none⟩) cp pcap W.drew (HM.out.ev.only hd) (HM.out.si.mono hd.size) (HM.out.st.drewN 1) (fun _=>⟨rfl,HT1.out,by have:=HT2.out;omega⟩)
    ⟨HQK.out.below (only_below hd hB hbvW),qc,qm,HM.out.env.only ((Only.refl _ W).drewN 1),by rw [hl];exact hcp,hcm,by rw [hl];have:=HC.out.p12;have:=HYF.out;omega,by have:=HYF.out;omega,by rw [hl];exact HYF.out.1,by omega,by omega⟩
   rw [hl] at hz
   refine Calls.mono hz fun e w3 h=>?_
   obtain ⟨v,ts3,s3,c3,rfl,⟨A3,cp3,rfl,hp3,hk3⟩,hS3,hO3,hres3⟩:=h
   have hq:pvC u P f 0 y tss t1=rr:=by rw [HRR.out,HEV.out];rfl
   rw [hq] at hres3
   exact ⟨A3,ts3.length,cp3,rfl,polyEnd (w:=w) (w1:=w3) (cap:=cp3) (r:=rr) hp3 hk3 hS3 ((HM.out.only.trans hd).trans hO3) hres3 al (only_cells HM.out.rb (hd.trans hO3) (by omega)),hd.trans hO3,by rw [hS3.cell];rfl⟩
  have HSD:Hid (W.drew.cell? ⟨bv,0,none⟩=some (.slice (some ⟨bP,oP,none⟩) P.length pcap)∧W.drew.cell? ⟨w.heap.size,1,none⟩=some (.int .i64 m)∧W.drew.cell? ⟨w.heap.size,2,none⟩=some (.int .i64 pi)∧W.drew.cell? ⟨bP,oP+m*3+2,none⟩=some (.slice (some ⟨bk,ok,none⟩) g.outs.len cF)∧W.drew.cell? ⟨bk,ok+pi*5,none⟩=some (.int .i64 y.k)∧W.drew.cell? ⟨bk,ok+pi*5+1,none⟩=some (.int .i64 y.n)∧W.drew.cell? ⟨bk,ok+pi*5+2,none⟩=some (.int .i64 y.p)∧W.drew.cell? ⟨bk,ok+pi*5+3,none⟩=some (.int .i64 y.c)∧W.drew.cell? ⟨bk,ok+pi*5+4,none⟩=some (.slice Ky y.ks.len capy)):=HS0.out
  refine RegE.start (S:=fun wx=>wx.cell? ⟨bv,0,none⟩=some (.slice (some ⟨bP,oP,none⟩) P.length pcap)∧wx.cell? ⟨w.heap.size,1,none⟩=some (.int .i64 m)∧wx.cell? ⟨w.heap.size,2,none⟩=some (.int .i64 pi)∧wx.cell? ⟨bP,oP+m*3+2,none⟩=some (.slice (some ⟨bk,ok,none⟩) g.outs.len cF)∧wx.cell? ⟨bk,ok+pi*5,none⟩=some (.int .i64 y.k)∧wx.cell? ⟨bk,ok+pi*5+1,none⟩=some (.int .i64 y.n)∧wx.cell? ⟨bk,ok+pi*5+2,none⟩=some (.int .i64 y.p)∧wx.cell? ⟨bk,ok+pi*5+3,none⟩=some (.int .i64 y.c)∧wx.cell? ⟨bk,ok+pi*5+4,none⟩=some (.slice Ky y.ks.len capy)) 17 (by kernel_rfl) (by kernel_rfl) ?Sa0 (fun hHeld hB=>?_)
  case Sa0=>((try dsimp only);exact HSD.out)
  refine RegE.takeL (S:=fun wx=>wx.cell? ⟨bv,0,none⟩=some (.slice (some ⟨bP,oP,none⟩) P.length pcap)∧wx.cell? ⟨w.heap.size,1,none⟩=some (.int .i64 m)∧wx.cell? ⟨w.heap.size,2,none⟩=some (.int .i64 pi)∧wx.cell? ⟨bP,oP+m*3+2,none⟩=some (.slice (some ⟨bk,ok,none⟩) g.outs.len cF)∧wx.cell? ⟨bk,ok+pi*5,none⟩=some (.int .i64 y.k)∧wx.cell? ⟨bk,ok+pi*5+1,none⟩=some (.int .i64 y.n)∧wx.cell? ⟨bk,ok+pi*5+2,none⟩=some (.int .i64 y.p)∧wx.cell? ⟨bk,ok+pi*5+3,none⟩=some (.int .i64 y.c)∧wx.cell? ⟨bk,ok+pi*5+4,none⟩=some (.slice Ky y.ks.len capy)) (i:=0) (v:=?va0) hB rfl (by decide) (by kernel_rfl) (by kernel_rfl) (fun _ _ _ h=>h) (Or.inl ⟨by rfl, ?ya0⟩) hHeld ?ra0
  case ya0=>((intro w hSw;(try dsimp only at hSw);go_simp)<;>with_reducible rfl)
  (try simp only [Act.put,List.setIfInBounds_toArray,List.set_cons_zero,List.set_cons_succ])
  refine RegE.takeL (S:=fun wx=>wx.cell? ⟨bv,0,none⟩=some (.slice (some ⟨bP,oP,none⟩) P.length pcap)∧wx.cell? ⟨w.heap.size,1,none⟩=some (.int .i64 m)∧wx.cell? ⟨w.heap.size,2,none⟩=some (.int .i64 pi)∧wx.cell? ⟨bP,oP+m*3+2,none⟩=some (.slice (some ⟨bk,ok,none⟩) g.outs.len cF)∧wx.cell? ⟨bk,ok+pi*5,none⟩=some (.int .i64 y.k)∧wx.cell? ⟨bk,ok+pi*5+1,none⟩=some (.int .i64 y.n)∧wx.cell? ⟨bk,ok+pi*5+2,none⟩=some (.int .i64 y.p)∧wx.cell? ⟨bk,ok+pi*5+3,none⟩=some (.int .i64 y.c)∧wx.cell? ⟨bk,ok+pi*5+4,none⟩=some (.slice Ky y.ks.len capy)) (i:=1) (v:=?va1) hB rfl (by decide) (by kernel_rfl) (by kernel_rfl) (fun _ _ _ h=>h) (Or.inl ⟨by rfl, ?ya1⟩) hHeld ?ra1
  case ya1=>((intro w hSw;(try dsimp only at hSw);go_simp)<;>with_reducible rfl)
  (try simp only [Act.put,List.setIfInBounds_toArray,List.set_cons_zero,List.set_cons_succ])
  refine RegE.takeL (S:=fun wx=>wx.cell? ⟨bv,0,none⟩=some (.slice (some ⟨bP,oP,none⟩) P.length pcap)∧wx.cell? ⟨w.heap.size,1,none⟩=some (.int .i64 m)∧wx.cell? ⟨w.heap.size,2,none⟩=some (.int .i64 pi)∧wx.cell? ⟨bP,oP+m*3+2,none⟩=some (.slice (some ⟨bk,ok,none⟩) g.outs.len cF)∧wx.cell? ⟨bk,ok+pi*5,none⟩=some (.int .i64 y.k)∧wx.cell? ⟨bk,ok+pi*5+1,none⟩=some (.int .i64 y.n)∧wx.cell? ⟨bk,ok+pi*5+2,none⟩=some (.int .i64 y.p)∧wx.cell? ⟨bk,ok+pi*5+3,none⟩=some (.int .i64 y.c)∧wx.cell? ⟨bk,ok+pi*5+4,none⟩=some (.slice Ky y.ks.len capy)) (i:=2) (v:=?va2) hB rfl (by decide) (by kernel_rfl) (by kernel_rfl) (fun _ _ _ h=>h) (Or.inl ⟨by rfl, ?ya2⟩) hHeld ?ra2
  case ya2=>((intro w hSw;(try dsimp only at hSw);go_simp)<;>with_reducible rfl)
  (try simp only [Act.put,List.setIfInBounds_toArray,List.set_cons_zero,List.set_cons_succ])
  refine RegE.takeL (S:=fun wx=>wx.cell? ⟨bv,0,none⟩=some (.slice (some ⟨bP,oP,none⟩) P.length pcap)∧wx.cell? ⟨w.heap.size,1,none⟩=some (.int .i64 m)∧wx.cell? ⟨w.heap.size,2,none⟩=some (.int .i64 pi)∧wx.cell? ⟨bP,oP+m*3+2,none⟩=some (.slice (some ⟨bk,ok,none⟩) g.outs.len cF)∧wx.cell? ⟨bk,ok+pi*5,none⟩=some (.int .i64 y.k)∧wx.cell? ⟨bk,ok+pi*5+1,none⟩=some (.int .i64 y.n)∧wx.cell? ⟨bk,ok+pi*5+2,none⟩=some (.int .i64 y.p)∧wx.cell? ⟨bk,ok+pi*5+3,none⟩=some (.int .i64 y.c)∧wx.cell? ⟨bk,ok+pi*5+4,none⟩=some (.slice Ky y.ks.len capy)) (i:=3) (v:=?va3) hB rfl (by decide) (by kernel_rfl) (by kernel_rfl) (fun _ _ _ h=>h) (Or.inl ⟨by rfl, ?ya3⟩) hHeld ?ra3
  case ya3=>((intro w hSw;(try dsimp only at hSw);go_simp)<;>with_reducible rfl)
  (try simp only [Act.put,List.setIfInBounds_toArray,List.set_cons_zero,List.set_cons_succ])
  refine RegE.takeL (S:=fun wx=>wx.cell? ⟨bv,0,none⟩=some (.slice (some ⟨bP,oP,none⟩) P.length pcap)∧wx.cell? ⟨w.heap.size,1,none⟩=some (.int .i64 m)∧wx.cell? ⟨w.heap.size,2,none⟩=some (.int .i64 pi)∧wx.cell? ⟨bP,oP+m*3+2,none⟩=some (.slice (some ⟨bk,ok,none⟩) g.outs.len cF)∧wx.cell? ⟨bk,ok+pi*5,none⟩=some (.int .i64 y.k)∧wx.cell? ⟨bk,ok+pi*5+1,none⟩=some (.int .i64 y.n)∧wx.cell? ⟨bk,ok+pi*5+2,none⟩=some (.int .i64 y.p)∧wx.cell? ⟨bk,ok+pi*5+3,none⟩=some (.int .i64 y.c)∧wx.cell? ⟨bk,ok+pi*5+4,none⟩=some (.slice Ky y.ks.len capy)) (i:=4) (v:=?va4) hB rfl (by decide) (by kernel_rfl) (by kernel_rfl) (fun _ _ _ h=>h) (Or.inl ⟨by rfl, ?ya4⟩) hHeld ?ra4
  case ya4=>((intro w hSw;(try dsimp only at hSw);go_simp)<;>with_reducible rfl)
  (try simp only [Act.put,List.setIfInBounds_toArray,List.set_cons_zero,List.set_cons_succ])
  refine RegE.takeL (S:=fun wx=>wx.cell? ⟨bv,0,none⟩=some (.slice (some ⟨bP,oP,none⟩) P.length pcap)∧wx.cell? ⟨w.heap.size,1,none⟩=some (.int .i64 m)∧wx.cell? ⟨w.heap.size,2,none⟩=some (.int .i64 pi)∧wx.cell? ⟨bP,oP+m*3+2,none⟩=some (.slice (some ⟨bk,ok,none⟩) g.outs.len cF)∧wx.cell? ⟨bk,ok+pi*5,none⟩=some (.int .i64 y.k)∧wx.cell? ⟨bk,ok+pi*5+1,none⟩=some (.int .i64 y.n)∧wx.cell? ⟨bk,ok+pi*5+2,none⟩=some (.int .i64 y.p)∧wx.cell? ⟨bk,ok+pi*5+3,none⟩=some (.int .i64 y.c)∧wx.cell? ⟨bk,ok+pi*5+4,none⟩=some (.slice Ky y.ks.len capy)) (i:=5) (v:=?va5) hB rfl (by decide) (by kernel_rfl) (by kernel_rfl) (fun _ _ _ h=>h) (Or.inl ⟨by rfl, ?ya5⟩) hHeld ?ra5
  case ya5=>((intro w hSw;(try dsimp only at hSw);go_simp)<;>with_reducible rfl)
  (try simp only [Act.put,List.setIfInBounds_toArray,List.set_cons_zero,List.set_cons_succ])
  refine RegE.takeL (S:=fun wx=>wx.cell? ⟨bv,0,none⟩=some (.slice (some ⟨bP,oP,none⟩) P.length pcap)∧wx.cell? ⟨w.heap.size,1,none⟩=some (.int .i64 m)∧wx.cell? ⟨w.heap.size,2,none⟩=some (.int .i64 pi)∧wx.cell? ⟨bP,oP+m*3+2,none⟩=some (.slice (some ⟨bk,ok,none⟩) g.outs.len cF)∧wx.cell? ⟨bk,ok+pi*5,none⟩=some (.int .i64 y.k)∧wx.cell? ⟨bk,ok+pi*5+1,none⟩=some (.int .i64 y.n)∧wx.cell? ⟨bk,ok+pi*5+2,none⟩=some (.int .i64 y.p)∧wx.cell? ⟨bk,ok+pi*5+3,none⟩=some (.int .i64 y.c)∧wx.cell? ⟨bk,ok+pi*5+4,none⟩=some (.slice Ky y.ks.len capy)) (i:=6) (v:=?va6) hB rfl (by decide) (by kernel_rfl) (by kernel_rfl) (fun _ _ _ h=>h) (Or.inl ⟨by rfl, ?ya6⟩) hHeld ?ra6
  case ya6=>((intro w hSw;(try dsimp only at hSw);go_simp)<;>with_reducible rfl)
  (try simp only [Act.put,List.setIfInBounds_toArray,List.set_cons_zero,List.set_cons_succ])
  refine RegE.takeL (S:=fun wx=>wx.cell? ⟨bv,0,none⟩=some (.slice (some ⟨bP,oP,none⟩) P.length pcap)∧wx.cell? ⟨w.heap.size,1,none⟩=some (.int .i64 m)∧wx.cell? ⟨w.heap.size,2,none⟩=some (.int .i64 pi)∧wx.cell? ⟨bP,oP+m*3+2,none⟩=some (.slice (some ⟨bk,ok,none⟩) g.outs.len cF)∧wx.cell? ⟨bk,ok+pi*5,none⟩=some (.int .i64 y.k)∧wx.cell? ⟨bk,ok+pi*5+1,none⟩=some (.int .i64 y.n)∧wx.cell? ⟨bk,ok+pi*5+2,none⟩=some (.int .i64 y.p)∧wx.cell? ⟨bk,ok+pi*5+3,none⟩=some (.int .i64 y.c)∧wx.cell? ⟨bk,ok+pi*5+4,none⟩=some (.slice Ky y.ks.len capy)) (i:=7) (v:=?va7) hB rfl (by decide) (by kernel_rfl) (by kernel_rfl) (fun _ _ _ h=>h) (Or.inl ⟨by rfl, ?ya7⟩) hHeld ?ra7
  case ya7=>((intro w hSw;(try dsimp only at hSw);go_simp)<;>with_reducible rfl)
  (try simp only [Act.put,List.setIfInBounds_toArray,List.set_cons_zero,List.set_cons_succ])
  refine RegE.takeL (S:=fun wx=>wx.cell? ⟨bv,0,none⟩=some (.slice (some ⟨bP,oP,none⟩) P.length pcap)∧wx.cell? ⟨w.heap.size,1,none⟩=some (.int .i64 m)∧wx.cell? ⟨w.heap.size,2,none⟩=some (.int .i64 pi)∧wx.cell? ⟨bP,oP+m*3+2,none⟩=some (.slice (some ⟨bk,ok,none⟩) g.outs.len cF)∧wx.cell? ⟨bk,ok+pi*5,none⟩=some (.int .i64 y.k)∧wx.cell? ⟨bk,ok+pi*5+1,none⟩=some (.int .i64 y.n)∧wx.cell? ⟨bk,ok+pi*5+2,none⟩=some (.int .i64 y.p)∧wx.cell? ⟨bk,ok+pi*5+3,none⟩=some (.int .i64 y.c)∧wx.cell? ⟨bk,ok+pi*5+4,none⟩=some (.slice Ky y.ks.len capy)) (i:=8) (v:=?va8) hB rfl (by decide) (by kernel_rfl) (by kernel_rfl) (fun _ _ _ h=>h) (Or.inl ⟨by rfl, ?ya8⟩) hHeld ?ra8
  case ya8=>((intro w hSw;(try dsimp only at hSw);go_simp)<;>with_reducible rfl)
  (try simp only [Act.put,List.setIfInBounds_toArray,List.set_cons_zero,List.set_cons_succ])
  refine RegE.takeL (S:=fun wx=>wx.cell? ⟨bv,0,none⟩=some (.slice (some ⟨bP,oP,none⟩) P.length pcap)∧wx.cell? ⟨w.heap.size,1,none⟩=some (.int .i64 m)∧wx.cell? ⟨w.heap.size,2,none⟩=some (.int .i64 pi)∧wx.cell? ⟨bP,oP+m*3+2,none⟩=some (.slice (some ⟨bk,ok,none⟩) g.outs.len cF)∧wx.cell? ⟨bk,ok+pi*5,none⟩=some (.int .i64 y.k)∧wx.cell? ⟨bk,ok+pi*5+1,none⟩=some (.int .i64 y.n)∧wx.cell? ⟨bk,ok+pi*5+2,none⟩=some (.int .i64 y.p)∧wx.cell? ⟨bk,ok+pi*5+3,none⟩=some (.int .i64 y.c)∧wx.cell? ⟨bk,ok+pi*5+4,none⟩=some (.slice Ky y.ks.len capy)) (i:=9) (v:=?va9) hB rfl (by decide) (by kernel_rfl) (by kernel_rfl) (fun _ _ _ h=>h) (Or.inl ⟨by rfl, ?ya9⟩) hHeld ?ra9
  case ya9=>((intro w hSw;(try dsimp only at hSw);go_simp)<;>with_reducible rfl)
  (try simp only [Act.put,List.setIfInBounds_toArray,List.set_cons_zero,List.set_cons_succ])
  refine RegE.takeL (S:=fun wx=>wx.cell? ⟨bv,0,none⟩=some (.slice (some ⟨bP,oP,none⟩) P.length pcap)∧wx.cell? ⟨w.heap.size,1,none⟩=some (.int .i64 m)∧wx.cell? ⟨w.heap.size,2,none⟩=some (.int .i64 pi)∧wx.cell? ⟨bP,oP+m*3+2,none⟩=some (.slice (some ⟨bk,ok,none⟩) g.outs.len cF)∧wx.cell? ⟨bk,ok+pi*5,none⟩=some (.int .i64 y.k)∧wx.cell? ⟨bk,ok+pi*5+1,none⟩=some (.int .i64 y.n)∧wx.cell? ⟨bk,ok+pi*5+2,none⟩=some (.int .i64 y.p)∧wx.cell? ⟨bk,ok+pi*5+3,none⟩=some (.int .i64 y.c)∧wx.cell? ⟨bk,ok+pi*5+4,none⟩=some (.slice Ky y.ks.len capy)) (i:=10) (v:=?va10) hB rfl (by decide) (by kernel_rfl) (by kernel_rfl) (fun _ _ _ h=>h) (Or.inl ⟨by rfl, ?ya10⟩) hHeld ?ra10
  case ya10=>((intro w hSw;(try dsimp only at hSw);go_simp)<;>with_reducible rfl)
  (try simp only [Act.put,List.setIfInBounds_toArray,List.set_cons_zero,List.set_cons_succ])
  refine RegE.takeL (S:=fun wx=>wx.cell? ⟨bv,0,none⟩=some (.slice (some ⟨bP,oP,none⟩) P.length pcap)∧wx.cell? ⟨w.heap.size,1,none⟩=some (.int .i64 m)∧wx.cell? ⟨w.heap.size,2,none⟩=some (.int .i64 pi)∧wx.cell? ⟨bP,oP+m*3+2,none⟩=some (.slice (some ⟨bk,ok,none⟩) g.outs.len cF)∧wx.cell? ⟨bk,ok+pi*5,none⟩=some (.int .i64 y.k)∧wx.cell? ⟨bk,ok+pi*5+1,none⟩=some (.int .i64 y.n)∧wx.cell? ⟨bk,ok+pi*5+2,none⟩=some (.int .i64 y.p)∧wx.cell? ⟨bk,ok+pi*5+3,none⟩=some (.int .i64 y.c)∧wx.cell? ⟨bk,ok+pi*5+4,none⟩=some (.slice Ky y.ks.len capy)) (i:=11) (v:=?va11) hB rfl (by decide) (by kernel_rfl) (by kernel_rfl) (fun _ _ _ h=>h) (Or.inl ⟨by rfl, ?ya11⟩) hHeld ?ra11
  case ya11=>((intro w hSw;(try dsimp only at hSw);go_simp)<;>with_reducible rfl)
  (try simp only [Act.put,List.setIfInBounds_toArray,List.set_cons_zero,List.set_cons_succ])
  refine RegE.takeL (S:=fun wx=>wx.cell? ⟨bv,0,none⟩=some (.slice (some ⟨bP,oP,none⟩) P.length pcap)∧wx.cell? ⟨w.heap.size,1,none⟩=some (.int .i64 m)∧wx.cell? ⟨w.heap.size,2,none⟩=some (.int .i64 pi)∧wx.cell? ⟨bP,oP+m*3+2,none⟩=some (.slice (some ⟨bk,ok,none⟩) g.outs.len cF)∧wx.cell? ⟨bk,ok+pi*5,none⟩=some (.int .i64 y.k)∧wx.cell? ⟨bk,ok+pi*5+1,none⟩=some (.int .i64 y.n)∧wx.cell? ⟨bk,ok+pi*5+2,none⟩=some (.int .i64 y.p)∧wx.cell? ⟨bk,ok+pi*5+3,none⟩=some (.int .i64 y.c)∧wx.cell? ⟨bk,ok+pi*5+4,none⟩=some (.slice Ky y.ks.len capy)) (i:=12) (v:=?va12) hB rfl (by decide) (by kernel_rfl) (by kernel_rfl) (fun _ _ _ h=>h) (Or.inl ⟨by rfl, ?ya12⟩) hHeld ?ra12
  case ya12=>((intro w hSw;(try dsimp only at hSw);go_simp)<;>with_reducible rfl)
  (try simp only [Act.put,List.setIfInBounds_toArray,List.set_cons_zero,List.set_cons_succ])
  refine RegE.takeL (S:=fun wx=>wx.cell? ⟨bv,0,none⟩=some (.slice (some ⟨bP,oP,none⟩) P.length pcap)∧wx.cell? ⟨w.heap.size,1,none⟩=some (.int .i64 m)∧wx.cell? ⟨w.heap.size,2,none⟩=some (.int .i64 pi)∧wx.cell? ⟨bP,oP+m*3+2,none⟩=some (.slice (some ⟨bk,ok,none⟩) g.outs.len cF)∧wx.cell? ⟨bk,ok+pi*5,none⟩=some (.int .i64 y.k)∧wx.cell? ⟨bk,ok+pi*5+1,none⟩=some (.int .i64 y.n)∧wx.cell? ⟨bk,ok+pi*5+2,none⟩=some (.int .i64 y.p)∧wx.cell? ⟨bk,ok+pi*5+3,none⟩=some (.int .i64 y.c)∧wx.cell? ⟨bk,ok+pi*5+4,none⟩=some (.slice Ky y.ks.len capy)) (i:=13) (v:=?va13) hB rfl (by decide) (by kernel_rfl) (by kernel_rfl) (fun _ _ _ h=>h) (Or.inl ⟨by rfl, ?ya13⟩) hHeld ?ra13
  case ya13=>((intro w hSw;(try dsimp only at hSw);go_simp)<;>with_reducible rfl)
  (try simp only [Act.put,List.setIfInBounds_toArray,List.set_cons_zero,List.set_cons_succ])
  refine RegE.takeL (S:=fun wx=>wx.cell? ⟨bv,0,none⟩=some (.slice (some ⟨bP,oP,none⟩) P.length pcap)∧wx.cell? ⟨w.heap.size,1,none⟩=some (.int .i64 m)∧wx.cell? ⟨w.heap.size,2,none⟩=some (.int .i64 pi)∧wx.cell? ⟨bP,oP+m*3+2,none⟩=some (.slice (some ⟨bk,ok,none⟩) g.outs.len cF)∧wx.cell? ⟨bk,ok+pi*5,none⟩=some (.int .i64 y.k)∧wx.cell? ⟨bk,ok+pi*5+1,none⟩=some (.int .i64 y.n)∧wx.cell? ⟨bk,ok+pi*5+2,none⟩=some (.int .i64 y.p)∧wx.cell? ⟨bk,ok+pi*5+3,none⟩=some (.int .i64 y.c)∧wx.cell? ⟨bk,ok+pi*5+4,none⟩=some (.slice Ky y.ks.len capy)) (i:=14) (v:=?va14) hB rfl (by decide) (by kernel_rfl) (by kernel_rfl) (fun _ _ _ h=>h) (Or.inl ⟨by rfl, ?ya14⟩) hHeld ?ra14
  case ya14=>((intro w hSw;(try dsimp only at hSw);go_simp)<;>with_reducible rfl)
  (try simp only [Act.put,List.setIfInBounds_toArray,List.set_cons_zero,List.set_cons_succ])
  refine RegE.takeL (S:=fun wx=>wx.cell? ⟨bv,0,none⟩=some (.slice (some ⟨bP,oP,none⟩) P.length pcap)∧wx.cell? ⟨w.heap.size,1,none⟩=some (.int .i64 m)∧wx.cell? ⟨w.heap.size,2,none⟩=some (.int .i64 pi)∧wx.cell? ⟨bP,oP+m*3+2,none⟩=some (.slice (some ⟨bk,ok,none⟩) g.outs.len cF)∧wx.cell? ⟨bk,ok+pi*5,none⟩=some (.int .i64 y.k)∧wx.cell? ⟨bk,ok+pi*5+1,none⟩=some (.int .i64 y.n)∧wx.cell? ⟨bk,ok+pi*5+2,none⟩=some (.int .i64 y.p)∧wx.cell? ⟨bk,ok+pi*5+3,none⟩=some (.int .i64 y.c)∧wx.cell? ⟨bk,ok+pi*5+4,none⟩=some (.slice Ky y.ks.len capy)) (i:=15) (v:=?va15) hB rfl (by decide) (by kernel_rfl) (by kernel_rfl) (fun _ _ _ h=>h) (Or.inl ⟨by rfl, ?ya15⟩) hHeld ?ra15
  case ya15=>((intro w hSw;(try dsimp only at hSw);go_simp)<;>with_reducible rfl)
  (try simp only [Act.put,List.setIfInBounds_toArray,List.set_cons_zero,List.set_cons_succ])
  refine RegE.stepL (i:=16) rfl (by decide) (by kernel_rfl) (fun K hK=>?_)
  go_simp
  go_at_call 176
  refine HCALL.out.mono ?_
  rintro e w3 ⟨A3,n3,cp3,rfl,hEnd,hO3,hC3⟩
  refine hK.out _ _ ?Sa16 (fun hHeldN=>?_)
  case Sa16=>((try dsimp only);exact callKeepP HS0.out hO3 hC3 hWl hg9 hbPW hbP9 hbkW hbk9)
  clear hK K hHeld
  have hHeld:=hHeldN
  clear hHeldN
  (try simp only [Act.put,List.setIfInBounds_toArray,List.set_cons_zero,List.set_cons_succ])
  obtain ⟨⟨k0,k1,q0,q1'⟩,⟨y0,y1⟩,HE2⟩:=hEnd
  refine RegE.lastL rfl (by kernel_rfl) (by kernel_rfl) (fun K hK=>?_)
  go_simp
  refine hK.out _ _ ?_
  clear hK K
  clear hO3 hC3
  have HE3:=hid HE2
  clear HE2
  go_wp2
  refine bodyPost_ret (v:=poV u A3 n3 cp3) (by simp [results,Tryz.results176,go_sem,y0,y1]) rfl ?_
  exact HE3.out
 ·have HB:=hid (pvAC_bad HRES.out hc rfl)
  have hc1:(c' != 0)=true:=by simpa using hc
  have hD:=deadP (S:=S) (rr:=rr) HS1.out (HE.out.only.trans HO1.out) (by rw [HRR.out,HB.out]) u0 u1 al (only_cells HE.out.rb HO1.out (by omega))
  obtain ⟨⟨k0,k1,q0,q1⟩,⟨y0,y1⟩,HE2⟩:=hD
  have HE3:=hid HE2
  clear HE2 HS1 HO1 HEN HRES HALL HLS hl hc
  go_wp2
  refine bodyPost_ret (v:=poV u none 0 0) (by simp [results,Tryz.results176,go_sem,y0,y1]) rfl ?_
  exact HE3.out
end
end Go.Proofs.YtgfkglhelfkpoaaGreat
