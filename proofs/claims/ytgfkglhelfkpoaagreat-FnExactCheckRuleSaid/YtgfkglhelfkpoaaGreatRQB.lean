/- Texts put together: WQv12, WChk1, WChk2. -/
import Derived.Test.YtgfkglhelfkpoaaGreatRPH
import Derived.Test.YtgfkglhelfkpoaaGreatRQA
set_option maxRecDepth 100000
set_option maxHeartbeats 4000000
open Go.Lib (hid)
namespace Go.Proofs.YtgfkglhelfkpoaaGreat
section
open Go.RowKit Plain
theorem gap_two {v:Int} {l r:Nd} {z1 z2:List Term'} {s1 c1 s2 c2:Int} (h1:ResIs (pvC v [] 3001 0 l (unkL v v.toNat) 0) z1 s1 c1) (h2:ResIs (pvC v [] 3001 c1 r (unkL v v.toNat) s1.toNat) z2 s2 c2) :
  (c2=0→c1=0∧gapV v l r=((v,nfT (z1++sclT 1000002 z2)),0))∧(c2≠0→gapV v l r=((0,[]),c2)):=by
 have hl:(⟨l.k,l.n,l.p,l.c,l.ks⟩:Nd)=l:=rfl
 have hr:(⟨r.k,r.n,r.p,r.c,r.ks⟩:Nd)=r:=rfl
 refine ⟨fun hc=>?_,fun hc=>?_⟩
 ·obtain ⟨e0,t2,_,_,_,e2⟩:=pvC_next h2 hc
  obtain ⟨_,t1,rfl,_,_,e1⟩:=pvC_next h1 e0
  rw [Int.toNat_natCast] at e2
  refine ⟨e0, ?_⟩
  unfold gapV two
  simp only [pvAll,hl,hr,e1,e2]
  rfl
 ·by_cases h0:c1=0
  ·obtain ⟨_,t1,rfl,_,_,e1⟩:=pvC_next h1 h0
   have e2:=pvC_bad h2 hc h0
   rw [Int.toNat_natCast] at e2
   unfold gapV two
   simp only [pvAll,hl,hr,e1,e2]
   rfl
  ·have e1:=pvC_bad h1 h0 rfl
   have e2:c2=c1:=by
    unfold pvC at h2
    rw [if_neg h0] at h2
    exact h2
   subst e2
   unfold gapV two
   simp only [pvAll,hl,e1]
   rfl
theorem retQ0 {w w1:World} {v0 c:Int} {A:Option Addr} {cp lo:Nat} {R:List Term'} (hb:Below w.heap.size w w1) (h:RT w1 lo w1.heap.size A R) (hlo:w.heap.size<lo) (x y:Value) :
  RetQi (v0,R) c w (.returned (.tuple #[poV v0 A R.length cp,.int .i64 c])) ((w1.setCell ⟨w.heap.size,0,none⟩ x).setCell ⟨w.heap.size,1,none⟩ y):=by
 have hO2:Only (fun q=>q=w.heap.size) w1 ((w1.setCell ⟨w.heap.size,0,none⟩ x).setCell ⟨w.heap.size,1,none⟩ y):=
  ⟨rfl,rfl,rfl,by simp [World.setCell],fun q _ hq=>(Below.heap_setCell _ _ _ _ hq).trans (Below.heap_setCell _ _ _ _ hq)⟩
 have h2:=h.only hO2 (fun q hq _ e=>by have e':q=w.heap.size:=e;omega)
 have hs:((w1.setCell ⟨w.heap.size,0,none⟩ x).setCell ⟨w.heap.size,1,none⟩ y).heap.size=w1.heap.size:=by simp [World.setCell]
 exact ⟨(hb.setCell (p:=⟨w.heap.size,0,none⟩) (by simp) _).setCell (p:=⟨w.heap.size,1,none⟩) (by simp) _,A,cp,rfl,RT.lowerR h2 (by omega) (by rw [hs];exact Nat.le_refl _)⟩
def SO (bv:Nat) (ob:Option Nat):Nat→Prop:=fun q=>q≤bv∨ob=some q
theorem SO.sub {bv:Nat} {ob:Option Nat} (q:Nat) (h:q≤bv):SO bv ob q:=.inl h
theorem SO.lt {W wx:World} {ob:Option Nat} {T:TypeId} {Z:List Value} {bv:Nat} (h:OB W wx ob T Z) (hb:bv<W.heap.size) (q:Nat) (e:SO bv ob q):q<wx.heap.size:=by
 rcases e with e | e
 ·have:=h.below.size;omega
 ·exact (h.box q e).2.lt
structure PEnd (W wc:World) (bv b:Nat) (t T:TypeId) (hd:List Value) (u:Int) (A:Option Addr) (c:Nat) (ts:List Term') (s' c':Int):Prop where
 lo:W.heap.size≤b
 bx:Cells wc b T [.int .i64 u,.slice A ts.length c]
 pt:PAt wc (fun q=>q≤bv) A ts
 ok:polyOk u ts=true
 st:Cells wc bv t (hd++[.int .i64 s',.int .i64 c'])
 on:Only (fun q=>q=bv) W wc
theorem OB.endP {W w3 w4:World} {b bv:Nat} {t T:TypeId} {z1 z2:Value} {hd:List Value} {u:Int} {A:Option Addr} {c:Nat} {ts:List Term'} {s' c':Int} (h:OB W w3 (some b) T [z1,z2]) (hbv:bv<W.heap.size) (hp:PAt w4 (SO bv (some b)) A ts) (hok:polyOk u ts=true) (hst:Cells w4 bv t (hd++[.int .i64 s',.int .i64 c'])) (ho:Only (fun q=>q=bv) w3 w4) :
  PEnd W ((w4.setCell ⟨b,0,none⟩ (.int .i64 u)).setCell ⟨b,1,none⟩ (.slice A ts.length c)) bv b t T hd u A c ts s' c':=by
 obtain ⟨h1,h2⟩:=h.box b rfl
 have h3:=only_cells h2 ho (by omega)
 have hO2:Only (fun q=>q=b) w4 ((w4.setCell ⟨b,0,none⟩ (.int .i64 u)).setCell ⟨b,1,none⟩ (.slice A ts.length c)):=
  ⟨rfl,rfl,rfl,by simp [World.setCell],fun q _ hq=>(Below.heap_setCell _ _ _ _ hq).trans (Below.heap_setCell _ _ _ _ hq)⟩
 have hW:Only (fun q=>q=bv) W w4:=(Only.of_below h.below).trans ho
 refine ⟨h1, ?_, ?_,hok,only_cells hst hO2 (by omega),⟨hO2.os.trans hW.os,hO2.tape.trans hW.tape,hO2.output.trans hW.output,Nat.le_trans hW.size hO2.size,fun q hq hn=>(hO2.block q (Nat.lt_of_lt_of_le hq hW.size) (fun e=>by have e':q=b:=e;omega)).trans (hW.block q hq hn)⟩⟩
 ·have h4:=(h3.set_ 0 (.int .i64 u)).set_ 1 (.slice A ts.length c)
  simpa using h4
 ·exact (hp.only (hO2.sub (T:=SO bv (some b)) fun q e=>by rw [e];exact .inr rfl)).sub SO.sub
theorem OB.endP0 {W w3 w4:World} {bv:Nat} {t T:TypeId} {Z:List Value} {hd:List Value} {u:Int} {A:Option Addr} {c:Nat} {ts:List Term'} {s' c':Int} (h:OB W w3 none T Z) (_hbv:bv<W.heap.size) (hp:PAt w4 (SO bv none) A ts) (hok:polyOk u ts=true) (hst:Cells w4 bv t (hd++[.int .i64 s',.int .i64 c'])) (ho:Only (fun q=>q=bv) w3 w4) :
  PEnd W (w4.alloc (.cells #[.int .i64 u,.slice A ts.length c] T)) bv w4.heap.size t T hd u A c ts s' c':=by
 have hal:Below w4.heap.size w4 (w4.alloc (.cells #[.int .i64 u,.slice A ts.length c] T)):=(Below.refl _ _).alloc (Nat.le_refl _) _
 have hW:Only (fun q=>q=bv) W w4:=(Only.of_below h.below).trans ho
 exact ⟨hW.size,Cells.new w4 T _,(hp.sub SO.sub).only (Only.of_below hal),hok,hst.next hal,hW.trans (Only.of_below hal)⟩
theorem PEnv.boxed {w:World} {bv:Nat} {u:Int} {A:Option Addr} {env:List (List Term')} (h:PEnv w (SO bv none) u A env) (x:Obj):PEnv (w.alloc x) (SO bv (some w.heap.size)) u A env:=
 (h.fresh (g:=w.heap.size) (Only.of_below ((Below.refl _ _).alloc (Nat.le_refl _) _)) (Nat.le_refl _)).sub fun q e=>by
  rcases e with e | e
  ·exact .inl (.inl e)
  ·injection e with e;exact .inr e.symm
theorem gapS (v:Int) (l r:Nd) (b o B:Nat) (w:World) (hE:RuleAt w B v l r b o) (hB:B≤w.heap.size) (v0:0≤v) (v3:v≤3) (hl:sideOk l v=true) (hr:sideOk r v=true) :
  Calls Tryz.prog 58 #[ptr b o] w (fun e w'=>RetQi (gapV v l r).1 (gapV v l r).2 w e w'∧GapOk v (gapV v l r)):=by
 obtain ⟨W0,hW0⟩:∃ W0,W0=((w.alloc (.cells #[.int .i64 0,.slice none 0 0] 86)).alloc (.cells #[.slice none 0 0] 51)).alloc (.cells #[ptr (w.heap.size+1) 0,.int .i64 v,.int .i64 0,.int .i64 0] 161):=⟨_,rfl⟩
 have HB0:Hid (Below w.heap.size w W0):=by show Below _ _ _;rw [hW0];go_grown
 have HR0:Hid (Cells W0 w.heap.size 86 [.int .i64 0,.slice none 0 0]):=by
  show Cells _ _ _ _
  rw [hW0];exact (Cells.new w 86 _).next (by go_grown)
 have HQ0:Hid (Cells W0 (w.heap.size+1) 51 [.slice none 0 0]):=by
  show Cells _ _ _ _
  rw [hW0]
  have:=(Cells.new (w.alloc (.cells #[.int .i64 0,.slice none 0 0] 86)) 51 [.slice none 0 0]).next (w':=((w.alloc (.cells #[.int .i64 0,.slice none 0 0] 86)).alloc (.cells #[.slice none 0 0] 51)).alloc (.cells #[ptr (w.heap.size+1) 0,.int .i64 v,.int .i64 0,.int .i64 0] 161)) (by go_grown)
  simpa using this
 have HD0:Hid (Cells W0 (w.heap.size+2) 161 [ptr (w.heap.size+1) 0,.int .i64 v,.int .i64 0,.int .i64 0]):=by
  show Cells _ _ _ _
  rw [hW0]
  have:=Cells.new ((w.alloc (.cells #[.int .i64 0,.slice none 0 0] 86)).alloc (.cells #[.slice none 0 0] 51)) 161 [ptr (w.heap.size+1) 0,.int .i64 v,.int .i64 0,.int .i64 0]
  simpa using this
 have HS0:Hid (W0.heap.size=w.heap.size+3):=by show _=_;rw [hW0];simp
 have HW0:=hid hW0
 have hbB:=hE.left.1
 have q0:((w.alloc (.cells #[.int .i64 0,.slice none 0 0] 86)).alloc (.cells #[.slice none 0 0] 51)).cell? ⟨b,o,none⟩=some (.int .i64 v):=keepC hE.vars (by go_grown)
 have HRA:=hid hE
 have HSD:=hid (And.intro hl hr)
 obtain ⟨gv,hgv⟩:∃ x,x=gapV v l r:=⟨_,rfl⟩
 rw [←hgv]
 have HGV:=hid hgv
 clear hgv hl hr hE hW0
 go_enter Tryz.func58,Tryz.ntmps58
 go_upto_region 3 with fail
 rw [←HW0.out]
 clear q0
 have hbvW:w.heap.size+2<W0.heap.size:=HD0.out.lt
 have hv12:v≤12:=by omega
 have HRW:Hid (∀ wx,Only (fun q=>q=w.heap.size+2) W0 wx→RuleAt wx B v l r b o):=fun wx ho=>HRA.out.below ((HB0.out.mono hB).trans (ho.below (by have:=HS0.out;omega) (fun q e=>by omega)))
 have HRU:Hid (∀ wx,Only (fun q=>q=w.heap.size+2) W0 wx→wx.cell? ⟨b,o,none⟩=some (.int .i64 v)):=fun wx ho=>(HRW.out wx ho).vars
 have HEV:Hid (SvIn W0 (w.heap.size+2) (w.heap.size+2) 1 [] (w.heap.size+1) 0):=⟨⟨by omega,none,0,by rw [HQ0.out.cell];rfl,Nat.le_refl _,Nat.zero_le _,FnSl.nil _ _⟩,Nat.le_refl _,hbvW,progOk_nil,by omega,by omega⟩
 have HIN:Hid (∀ W wx ob,W0.heap.size≤W.heap.size→OB W wx ob 86 [.int .i64 0,.slice none 0 0]→Calls Tryz.prog 108 #[.int .i64 v] wx fun e w'=>∃ A cp,e=.returned (.slice A v.toNat cp)∧Hid (v.toNat≤cp∧cp≤maxLen∧PEnv w' (SO (w.heap.size+2) ob) v A (unkL v v.toNat))∧Below wx.heap.size wx w'):=fun W wx ob hs hob=>
  (inputsQ_any v (SO (w.heap.size+2) ob) wx (fun q e=>SO.lt hob (by omega) q e) v0 hv12).mono fun e w' ⟨A,cp,h1,h2,h3,h4,h5⟩=>⟨A,cp,h1,⟨h2,h3,h4⟩,h5⟩
 have HOA:Hid (Only (fun q=>q=w.heap.size+2) W0 W0):=Only.refl _ _
 have hbvW6:=hbvW
 have HX6:Hid (∀ wx ob A3 c3,OB W0 wx ob 86 [.int .i64 0,.slice none 0 0]→(v.toNat≤c3∧c3≤maxLen∧PEnv wx (SO (w.heap.size+2) ob) v A3 (unkL v v.toNat))→Calls Tryz.prog 123 #[.pointer (some ⟨w.heap.size+2,0,none⟩),.pointer (some ⟨b,o+1,none⟩),.slice A3 v.toNat c3] wx (PPost (SO (w.heap.size+2) ob) (w.heap.size+2) v 161 (hdQ v (w.heap.size+1) 0) (pvC v [] 3001 0 l (unkL v v.toNat) 0) wx)):=fun wx ob A3 c3 hob ⟨h1,h2,h3⟩=>by
  have hO:Only (fun q=>q=w.heap.size+2) W0 wx:=Only.of_below hob.below
  have hO0:=HOA.out.trans hO
  have hsp:=sideOk_parts HSD.out.1
  have hsd:=side_depth HSD.out.1
  have hrw:=HRW.out wx hO0
  have hz:=exprQ_any [] v 3001 l (unkL v v.toNat) 0 0 0 0 b (o+1) (w.heap.size+2) (SO (w.heap.size+2) ob) (w.heap.size+2) A3 c3 (w.heap.size+1) 0 wx (HEV.out.only hO0) ⟨.inl (Nat.le_refl _),fun q e=>SO.lt hob (by have:=hO0.size;have:=HOA.out.size;omega) q e,trivial,v0,hv12⟩ (HD0.out.next hob.below) (fun _=>⟨rfl,by omega,by omega⟩)
   ⟨hrw.left.mono (by omega),h3,by rw [unkL_length];exact h1,h2,by rw [unkL_length];omega,by omega,by rw [unkL_length,Int.toNat_of_nonneg v0];exact hsp.2.2.1,Int.le_refl _,by simp⟩
  rw [unkL_length] at hz
  exact hz
 obtain ⟨R6,hR6⟩:∃ R,R=pvC v [] 3001 0 l (unkL v v.toNat) 0:=⟨_,rfl⟩
 rw [←hR6] at HX6
 have HRR6:=hid hR6
 clear hR6
 go_cut [6] from 15 to 24 (fun sx wc=>∃ (b6:Nat) (A6:Option Addr) (c6:Nat) (ts6:List Term') (s6' c6':Int),sx=.pointer (some ⟨b6,0,none⟩)∧Hid (PEnd W0 wc (w.heap.size+2) b6 161 86 (hdQ v (w.heap.size+1) 0) v A6 c6 ts6 s6' c6')∧Hid (ResIs R6 ts6 s6' c6'))
 case first=>
  go_region_held3 (fun wx=>wx.cell? ⟨b,o,none⟩=some (.int .i64 v)) (first | exact HRU.out _ (HOA.out.trans (Only.of_below (OB.below (OB.start W0 86 [.int .i64 0,.slice none 0 0])))) | exact HRU.out _ (HOA.out.trans (Only.of_below (OB.below (OB.start2 W0 86 [.int .i64 0,.slice none 0 0])))) | exact HRU.out _ (HOA.out.trans (Only.of_below (OB.below O3.out))) | exact HRU.out _ (HOA.out.trans (Only.of_below (OB.below O3.out.al))) | exact HRU.out _ (HOA.out.trans ((Only.of_below OF.out.below).trans HO4.out)) | exact HRU.out _ (HOA.out.trans (((Only.of_below OF.out.below).trans HO4.out).trans (Only.of_below ((Below.refl _ _).alloc (Nat.le_refl _) _)))) | exact HRU.out _ (HOA.out.trans (OB.endP OF.out hbvW6 HP4.out.1 HP4.out.2 HS4.out HO4.out).on) | exact HRU.out _ (HOA.out.trans (OB.endP0 OF.out hbvW6 HP4.out.1 HP4.out.2 HS4.out HO4.out).on))
   (first
    | (go_at_call 108;(with_reducible refine (HIN.out W0 _ _ HOA.out.size (OB.start W0 86 [.int .i64 0,.slice none 0 0])).mono ?_);rintro e w3 ⟨A3,c3,rfl,hE3,hb3⟩;have O3:=hid (OB.next (OB.start W0 86 [.int .i64 0,.slice none 0 0]) hb3);clear hb3)
    | (go_at_call 108;(with_reducible refine (HIN.out W0 _ _ HOA.out.size (OB.start2 W0 86 [.int .i64 0,.slice none 0 0])).mono ?_);rintro e w3 ⟨A3,c3,rfl,hE3,hb3⟩;have O3:=hid (OB.next (OB.start2 W0 86 [.int .i64 0,.slice none 0 0]) hb3);clear hb3)
    | (go_at_call 123;(with_reducible refine (HX6.out _ _ _ _ O3.out hE3.out).mono ?_);rintro e w4 ⟨_,ts4,s4',c4',rfl,⟨A4,c4,rfl,hp4,hk4⟩,hS4,hO4,hres4⟩;have OF:=hid O3.out;have HO4:=hid hO4;have HP4:=hid (And.intro hp4 hk4);have HS4:=hid hS4;have HRS:=hid hres4;(first | (obtain ⟨hlo4,hcl⟩:=OF.out.box _ rfl;have hcl4:=only_cells hcl hO4 (by omega);have y0q:=(hcl4.cell 0).trans rfl;have y1q:=(hcl4.cell 1).trans rfl;have f0q:=hcl4.frozen 0;have f1q:=hcl4.frozen 1;simp only [List.getElem?_cons_zero,List.getElem?_cons_succ] at y0q y1q;clear hcl hcl4) | skip);clear hp4 hk4 hS4 hO4 hres4)
    | (go_at_call 123;(with_reducible refine (HX6.out _ _ _ _ O3.out.al ⟨hE3.out.1,hE3.out.2.1,hE3.out.2.2.boxed _⟩).mono ?_);rintro e w4 ⟨_,ts4,s4',c4',rfl,⟨A4,c4,rfl,hp4,hk4⟩,hS4,hO4,hres4⟩;have OF:=hid O3.out.al;have HO4:=hid hO4;have HP4:=hid (And.intro hp4 hk4);have HS4:=hid hS4;have HRS:=hid hres4;(first | (obtain ⟨hlo4,hcl⟩:=OF.out.box _ rfl;have hcl4:=only_cells hcl hO4 (by omega);have y0q:=(hcl4.cell 0).trans rfl;have y1q:=(hcl4.cell 1).trans rfl;have f0q:=hcl4.frozen 0;have f1q:=hcl4.frozen 1;simp only [List.getElem?_cons_zero,List.getElem?_cons_succ] at y0q y1q;clear hcl hcl4) | skip);clear hp4 hk4 hS4 hO4 hres4))
  all_goals
   go_wp2_with fail
   go_meet
   case rel=>first | exact ⟨_,_,_,_,_,_,rfl,(OB.endP OF.out hbvW6 HP4.out.1 HP4.out.2 HS4.out HO4.out),HRS.out⟩ | exact ⟨_,_,_,_,_,_,rfl,(OB.endP0 OF.out hbvW6 HP4.out.1 HP4.out.2 HS4.out HO4.out),HRS.out⟩
 case rest=>
 obtain ⟨b6,A6,c6,ts6,s6',c6',rfl,HE6,HRES6⟩:=hcut
 obtain ⟨w6,rfl⟩:∃ x,x=wc:=⟨_,rfl⟩
 have hbvW7:w.heap.size+2<w6.heap.size:=HE6.out.st.lt
 have HND6:Hid (c6'=0→s6'=((s6'.toNat:Nat):Int)∧s6'.toNat≤3000∧3001≤s6'.toNat+3001):=fun h=>by
  have h1:=HRES6.out
  rw [HRR6.out] at h1
  obtain ⟨_,t1,e1,_,e3,_⟩:=pvC_next h1 h
  subst e1
  rw [Int.toNat_natCast]
  exact ⟨rfl,e3,by omega⟩
 clear HX6
 go_upto_region 4 with fail
 have HX7:Hid (∀ wx ob A3 c3,OB w6 wx ob 86 [.int .i64 0,.slice none 0 0]→(v.toNat≤c3∧c3≤maxLen∧PEnv wx (SO (w.heap.size+2) ob) v A3 (unkL v v.toNat))→Calls Tryz.prog 123 #[.pointer (some ⟨w.heap.size+2,0,none⟩),.pointer (some ⟨b,o+6,none⟩),.slice A3 v.toNat c3] wx (PPost (SO (w.heap.size+2) ob) (w.heap.size+2) v 161 (hdQ v (w.heap.size+1) 0) (pvC v [] 3001 c6' r (unkL v v.toNat) s6'.toNat) wx)):=fun wx ob A3 c3 hob ⟨h1,h2,h3⟩=>by
  have hO:Only (fun q=>q=w.heap.size+2) w6 wx:=Only.of_below hob.below
  have hO0:=HE6.out.on.trans hO
  have hsp:=sideOk_parts HSD.out.2
  have hsd:=side_depth HSD.out.2
  have hrw:=HRW.out wx hO0
  have hz:=exprQ_any [] v 3001 r (unkL v v.toNat) s6' s6'.toNat c6' 0 b (o+6) (w.heap.size+2) (SO (w.heap.size+2) ob) (w.heap.size+2) A3 c3 (w.heap.size+1) 0 wx (HEV.out.only hO0) ⟨.inl (Nat.le_refl _),fun q e=>SO.lt hob (by have:=hO0.size;have:=HE6.out.on.size;omega) q e,trivial,v0,hv12⟩ (HE6.out.st.next hob.below) HND6.out
   ⟨hrw.right.mono (by omega),h3,by rw [unkL_length];exact h1,h2,by rw [unkL_length];omega,by omega,by rw [unkL_length,Int.toNat_of_nonneg v0];exact hsp.2.2.1,Int.le_refl _,by simp⟩
  rw [unkL_length] at hz
  exact hz
 obtain ⟨R7,hR7⟩:∃ R,R=pvC v [] 3001 c6' r (unkL v v.toNat) s6'.toNat:=⟨_,rfl⟩
 rw [←hR7] at HX7
 have HRR7:=hid hR7
 clear hR7
 go_cut [7] from 25 to 34 (fun sx wc=>∃ (b7:Nat) (A7:Option Addr) (c7:Nat) (ts7:List Term') (s7' c7':Int),sx=.pointer (some ⟨b7,0,none⟩)∧Hid (PEnd w6 wc (w.heap.size+2) b7 161 86 (hdQ v (w.heap.size+1) 0) v A7 c7 ts7 s7' c7')∧Hid (ResIs R7 ts7 s7' c7'))
 case first=>
  go_region_held3 (fun wx=>wx.cell? ⟨b,o,none⟩=some (.int .i64 v)) (first | exact HRU.out _ (HE6.out.on.trans (Only.of_below (OB.below (OB.start w6 86 [.int .i64 0,.slice none 0 0])))) | exact HRU.out _ (HE6.out.on.trans (Only.of_below (OB.below (OB.start2 w6 86 [.int .i64 0,.slice none 0 0])))) | exact HRU.out _ (HE6.out.on.trans (Only.of_below (OB.below O3.out))) | exact HRU.out _ (HE6.out.on.trans (Only.of_below (OB.below O3.out.al))) | exact HRU.out _ (HE6.out.on.trans ((Only.of_below OF.out.below).trans HO4.out)) | exact HRU.out _ (HE6.out.on.trans (((Only.of_below OF.out.below).trans HO4.out).trans (Only.of_below ((Below.refl _ _).alloc (Nat.le_refl _) _)))) | exact HRU.out _ (HE6.out.on.trans (OB.endP OF.out hbvW7 HP4.out.1 HP4.out.2 HS4.out HO4.out).on) | exact HRU.out _ (HE6.out.on.trans (OB.endP0 OF.out hbvW7 HP4.out.1 HP4.out.2 HS4.out HO4.out).on))
   (first
    | (go_at_call 108;(with_reducible refine (HIN.out w6 _ _ HE6.out.on.size (OB.start w6 86 [.int .i64 0,.slice none 0 0])).mono ?_);rintro e w3 ⟨A3,c3,rfl,hE3,hb3⟩;have O3:=hid (OB.next (OB.start w6 86 [.int .i64 0,.slice none 0 0]) hb3);clear hb3)
    | (go_at_call 108;(with_reducible refine (HIN.out w6 _ _ HE6.out.on.size (OB.start2 w6 86 [.int .i64 0,.slice none 0 0])).mono ?_);rintro e w3 ⟨A3,c3,rfl,hE3,hb3⟩;have O3:=hid (OB.next (OB.start2 w6 86 [.int .i64 0,.slice none 0 0]) hb3);clear hb3)
    | (go_at_call 123;(with_reducible refine (HX7.out _ _ _ _ O3.out hE3.out).mono ?_);rintro e w4 ⟨_,ts4,s4',c4',rfl,⟨A4,c4,rfl,hp4,hk4⟩,hS4,hO4,hres4⟩;have OF:=hid O3.out;have HO4:=hid hO4;have HP4:=hid (And.intro hp4 hk4);have HS4:=hid hS4;have HRS:=hid hres4;(first | (obtain ⟨hlo4,hcl⟩:=OF.out.box _ rfl;have hcl4:=only_cells hcl hO4 (by omega);have y0q:=(hcl4.cell 0).trans rfl;have y1q:=(hcl4.cell 1).trans rfl;have f0q:=hcl4.frozen 0;have f1q:=hcl4.frozen 1;simp only [List.getElem?_cons_zero,List.getElem?_cons_succ] at y0q y1q;clear hcl hcl4) | skip);clear hp4 hk4 hS4 hO4 hres4)
    | (go_at_call 123;(with_reducible refine (HX7.out _ _ _ _ O3.out.al ⟨hE3.out.1,hE3.out.2.1,hE3.out.2.2.boxed _⟩).mono ?_);rintro e w4 ⟨_,ts4,s4',c4',rfl,⟨A4,c4,rfl,hp4,hk4⟩,hS4,hO4,hres4⟩;have OF:=hid O3.out.al;have HO4:=hid hO4;have HP4:=hid (And.intro hp4 hk4);have HS4:=hid hS4;have HRS:=hid hres4;(first | (obtain ⟨hlo4,hcl⟩:=OF.out.box _ rfl;have hcl4:=only_cells hcl hO4 (by omega);have y0q:=(hcl4.cell 0).trans rfl;have y1q:=(hcl4.cell 1).trans rfl;have f0q:=hcl4.frozen 0;have f1q:=hcl4.frozen 1;simp only [List.getElem?_cons_zero,List.getElem?_cons_succ] at y0q y1q;clear hcl hcl4) | skip);clear hp4 hk4 hS4 hO4 hres4))
  all_goals
   go_wp2_with fail
   go_meet
   case rel=>first | exact ⟨_,_,_,_,_,_,rfl,(OB.endP OF.out hbvW7 HP4.out.1 HP4.out.2 HS4.out HO4.out),HRS.out⟩ | exact ⟨_,_,_,_,_,_,rfl,(OB.endP0 OF.out hbvW7 HP4.out.1 HP4.out.2 HS4.out HO4.out),HRS.out⟩
 case rest=>
 obtain ⟨b7,A7,c7,ts7,s7',c7',rfl,HE7,HRES7⟩:=hcut
 obtain ⟨w7,rfl⟩:∃ x,x=wc:=⟨_,rfl⟩
 have hO7:=HE6.out.on.trans HE7.out.on
 have hbx6:=only_cells HE6.out.bx HE7.out.on (by have:=HE6.out.lo;omega)
 have HBW7:Hid (Below w.heap.size w w7):=HB0.out.trans (hO7.below (by have:=HS0.out;omega) (fun q e=>by omega))
 have HR7:=hid (only_cells HR0.out hO7 (by omega))
 have k3:w7.cell? ⟨w.heap.size+2,3,none⟩=some (.int .i64 c7'):=by rw [HE7.out.st.cell];rfl
 have x0:w7.cell? ⟨b6,0,none⟩=some (.int .i64 v):=by rw [hbx6.cell];rfl
 have x1:w7.cell? ⟨b6,0+1,none⟩=some (.slice A6 ts6.length c6):=by rw [hbx6.cell];rfl
 have x3:w7.cell? ⟨b7,0+1,none⟩=some (.slice A7 ts7.length c7):=by rw [HE7.out.bx.cell];rfl
 have HAD:=hid (l05Add_any 1000002 b6 0 b7 0 v A6 A7 c6 c7 ts6 ts7 w7 x0 x1 x3 (HE6.out.pt.only (HE7.out.on.sub fun q e=>by rw [e];exact Nat.le_refl _)).now HE7.out.pt.now HE6.out.ok HE7.out.ok)
 have HGP:Hid ((c7'=0→gv=((v,nfT (ts6++sclT 1000002 ts7)),0))∧(c7'≠0→gv=((0,[]),c7'))):=by
  have h1:=HRES6.out
  rw [HRR6.out] at h1
  have h2:=HRES7.out
  rw [HRR7.out] at h2
  have h3:=gap_two h1 h2
  exact ⟨fun h=>HGV.out.trans (h3.1 h).2,fun h=>HGV.out.trans (h3.2 h)⟩
 have hlt7:w.heap.size<w7.heap.size:=HR7.out.lt
 have hgk:=gap_poly HE6.out.ok HE7.out.ok
 clear HX7 HEV HIN HRW HRU HND6 HOA HRES6 HRES7 HRR6 HRR7 HE6 HE7 hO7 hbx6 x0 x1 x3
 obtain ⟨R,hR⟩:∃ R,R=nfT (ts6++sclT 1000002 ts7):=⟨_,rfl⟩
 rw [←hR] at HAD HGP hgk
 have HGK:=hid hgk
 clear hgk
 clear hR
 by_cases hcc:c7'=0
 ·subst hcc
  have HPV:=hid (HGP.out.1 rfl)
  clear HGP
  go_wp2_with fail
  refine HAD.out.mono ?_;rintro e w8 ⟨A8,c8,rfl,hTR,hb8⟩
  have hr8:=HR7.out.next hb8
  have y0:w8.cell? ⟨w.heap.size,0,none⟩=some (.int .i64 0):=by rw [hr8.cell];rfl
  have y1:w8.cell? ⟨w.heap.size,1,none⟩=some (.slice none 0 0):=by rw [hr8.cell];rfl
  have f0:w8.frozen? ⟨w.heap.size,0,none⟩=false:=hr8.frozen _
  have f1:w8.frozen? ⟨w.heap.size,1,none⟩=false:=hr8.frozen _
  have hD1:=hr8.set_ 0 (.int .i64 v)
  have hD2:=hD1.set_ 1 (.slice A8 R.length c8)
  have z0:=hD1.cell 0
  have z1:=hD2.cell 1
  simp only [List.set_cons_zero,List.set_cons_succ,List.getElem?_cons_zero,List.getElem?_cons_succ] at z0 z1
  clear hD1 hD2
  have HRT:=hid (hTR.rt hb8.size)
  have HBF:=hid (HBW7.out.trans (hb8.mono HBW7.out.size))
  clear hTR hb8 hr8 HAD
  go_wp2
  refine bodyPost_ret (v:=.tuple #[poV v A8 R.length c8,.int .i64 0]) (by simp [results,Tryz.results58,go_sem,z0,z1]) rfl ?_
  rw [HPV.out]
  exact ⟨retQ0 HBF.out HRT.out hlt7 _ _,fun _=>⟨rfl,HGK.out⟩⟩
 ·have HPV:=hid (HGP.out.2 hcc)
  have hcb:(c7' != 0)=true:=by simpa using hcc
  clear hcc HGP HAD
  go_wp2_with fail
  have hrD:Cells w7.drew w.heap.size 86 [.int .i64 0,.slice none 0 0]:=HR7.out.drewN 1
  have HS9:Hid (w7.drew.cell? ⟨w.heap.size+2,3,none⟩=some (.int .i64 c7')):=k3
  have y0:w7.drew.cell? ⟨w.heap.size,0,none⟩=some (.int .i64 0):=by rw [hrD.cell];rfl
  have y1:w7.drew.cell? ⟨w.heap.size,1,none⟩=some (.slice none 0 0):=by rw [hrD.cell];rfl
  have f0:w7.drew.frozen? ⟨w.heap.size,0,none⟩=false:=hrD.frozen _
  have f1:w7.drew.frozen? ⟨w.heap.size,1,none⟩=false:=hrD.frozen _
  have hD1:=hrD.set_ 0 (.int .i64 0)
  have hD2:=hD1.set_ 1 (.slice none 0 0)
  have z0:=hD1.cell 0
  have z1:=hD2.cell 1
  simp only [List.set_cons_zero,List.set_cons_succ,List.getElem?_cons_zero,List.getElem?_cons_succ] at z0 z1
  clear hD1 hD2
  have hk3:((w7.drew.setCell ⟨w.heap.size,0,none⟩ (.int .i64 0)).setCell ⟨w.heap.size,1,none⟩ (.slice none 0 0)).cell? ⟨w.heap.size+2,3,none⟩=some (.int .i64 c7'):=by
   have e1:¬ (w.heap.size+2=w.heap.size):=by omega
   rw [World.cell?_setCell_other _ _ _ _ (fun e=>e1 (congrArg Addr.block e).symm),World.cell?_setCell_other _ _ _ _ (fun e=>e1 (congrArg Addr.block e).symm)];exact k3
  have HBF:Hid (Below w.heap.size w w7.drew):=HBW7.out.drew
  refine RegE.start (S:=fun wx=>wx.cell? ⟨w.heap.size+2,3,none⟩=some (.int .i64 c7')) 6 (by kernel_rfl) (by kernel_rfl) ?Sd0 (fun hHeld hB=>?_)
  case Sd0=>((try dsimp only);exact HS9.out)
  have hlt5:w.heap.size<w7.drew.heap.size:=hlt7
  clear HS9
  generalize w7.drew=W5 at *
  refine RegE.takeL (S:=fun wx=>wx.cell? ⟨w.heap.size+2,3,none⟩=some (.int .i64 c7')) (i:=0) (v:=?vd0) hB rfl (by decide) (by kernel_rfl) (by kernel_rfl) (fun _ _ _ h=>h) (Or.inl ⟨by rfl, ?yd0⟩) hHeld ?rd0
  case yd0=>((intro w hSw;(try dsimp only at hSw);go_simp)<;>with_reducible rfl)
  (try simp only [Act.put,List.setIfInBounds_toArray,List.set_cons_zero,List.set_cons_succ])
  refine RegE.takeL (S:=fun wx=>wx.cell? ⟨w.heap.size+2,3,none⟩=some (.int .i64 c7')) (i:=1) (v:=?vd1) hB rfl (by decide) (by kernel_rfl) (by kernel_rfl) (fun _ _ _ h=>h) (Or.inl ⟨by rfl, ?yd1⟩) hHeld ?rd1
  case yd1=>((intro w hSw;(try dsimp only at hSw);go_simp)<;>with_reducible rfl)
  (try simp only [Act.put,List.setIfInBounds_toArray,List.set_cons_zero,List.set_cons_succ])
  refine RegE.takeL (S:=fun wx=>wx.cell? ⟨w.heap.size+2,3,none⟩=some (.int .i64 c7')) (i:=2) (v:=?vd2) hB rfl (by decide) (by kernel_rfl) (by kernel_rfl) (fun _ _ _ h=>h) (Or.inl ⟨by rfl, ?yd2⟩) hHeld ?rd2
  case yd2=>((intro w hSw;(try dsimp only at hSw);go_simp)<;>with_reducible rfl)
  (try simp only [Act.put,List.setIfInBounds_toArray,List.set_cons_zero,List.set_cons_succ])
  refine RegE.takeL (S:=fun wx=>wx.cell? ⟨w.heap.size+2,3,none⟩=some (.int .i64 c7')) (i:=3) (v:=?vd3) hB rfl (by decide) (by kernel_rfl) (by kernel_rfl) (fun _ _ _ h=>h) (Or.inl ⟨by rfl, ?yd3⟩) hHeld ?rd3
  case yd3=>((intro w hSw;(try dsimp only at hSw);go_simp)<;>with_reducible rfl)
  (try simp only [Act.put,List.setIfInBounds_toArray,List.set_cons_zero,List.set_cons_succ])
  refine RegE.takeL (S:=fun wx=>wx.cell? ⟨w.heap.size+2,3,none⟩=some (.int .i64 c7')) (i:=4) (v:=?vd4) hB rfl (by decide) (by kernel_rfl) (by kernel_rfl) (fun _ _ _ h=>h) (Or.inl ⟨by rfl, ?yd4⟩) hHeld ?rd4
  case yd4=>((intro w hSw;(try dsimp only at hSw);go_simp)<;>with_reducible rfl)
  (try simp only [Act.put,List.setIfInBounds_toArray,List.set_cons_zero,List.set_cons_succ])
  refine RegE.stepL (i:=5) rfl (by decide) (by kernel_rfl) (fun K hK=>?_)
  go_simp
  refine hK.out _ _ ?Sd5 (fun hHeldN=>?_)
  case Sd5=>((try dsimp only);exact hk3)
  clear hK K hHeld
  have hHeld:=hHeldN
  clear hHeldN
  (try simp only [Act.put,List.setIfInBounds_toArray,List.set_cons_zero,List.set_cons_succ])
  refine RegE.lastL rfl (by kernel_rfl) (by kernel_rfl) (fun K hK=>?_)
  go_simp
  refine hK.out _ _ ?_
  clear hK K
  clear hrD hk3
  go_wp2
  refine bodyPost_ret (v:=.tuple #[poV 0 none 0 0,.int .i64 c7']) (by simp [results,Tryz.results58,go_sem,z0,z1]) rfl ?_
  rw [HPV.out]
  exact ⟨retQ0 (R:=[]) HBF.out (RT.empty _ _ (Nat.le_refl _) _) hlt5 _ _,fun h=>by simp at hcb;exact absurd h hcb⟩
end
section
open Go.RowKit Plain
noncomputable def firstPt (u:Nat) (ts:List Term'):List Int:=@dite _ (∃ l,FirstPt u ts l) (Classical.propDecidable _) (fun h=>Classical.choose h) fun _=>[]
theorem firstPt_eq {u:Nat} {ts:List Term'} {l:List Int} (h:FirstPt u ts l):firstPt u ts=l:=by
 unfold firstPt
 have hx:∃ l,FirstPt u ts l:=⟨l,h⟩
 rw [dif_pos hx]
 exact (Classical.choose_spec hx).unique h
noncomputable def chkV (v:Int) (l r:Nd):(Bool×List Int)×Int:=
 if ruleOk v l r=true then
  (if (gapV v l r).2=0 then (if (gapV v l r).1.2=[] then ((true,[]),0) else ((false,firstPt v.toNat (gapV v l r).1.2),0)) else ((false,[]),(gapV v l r).2))
 else ((false,[]),1)
def RetbIi (b:Bool) (a:List Int) (c:Int) (w:World) (e:Ending) (w':World):Prop:=
 Below w.heap.size w w'∧∃ A cp,e=.returned (.tuple #[.bool b,.slice A a.length cp,.int .i64 c])∧RI w' w.heap.size w'.heap.size A a
theorem ruleOk_parts {v:Int} {l r:Nd} (h:ruleOk v l r=true):0≤v∧v≤3∧sideOk l v=true∧sideOk r v=true:=by
 unfold ruleOk at h
 simp only [Bool.and_eq_true] at h
 have h3:=inR_true.1 h.1.1.1.1
 exact ⟨h3.1,h3.2,h.1.1.1.2,h.1.1.2⟩
def ptOf (w:World) (g n:Nat):List Int:=(List.range n).map fun k=>match w.cell? ⟨g,k,none⟩ with | some v=>intOf v | none=>0
theorem ptOf_eq {w:World} {g:Nat} {l:List Int} (h:Cells w g 2 (l.map (Value.int .i64))):ptOf w g l.length=l:=by
 refine List.ext_getElem (by simp [ptOf]) fun i h1 h2=>?_
 simp only [ptOf,List.getElem_map,List.getElem_range,h.cell,List.getElem?_map,List.getElem?_eq_getElem h2,Option.map_some]
 rfl
theorem set_mid (a:List Int) (z x:Int) (r:List Int):(a++z :: r).set a.length x=a++x :: r:=by
 rw [List.set_append_right _ _ (Nat.le_refl _),Nat.sub_self,List.set_cons_zero]
theorem get_mid (a:List Int) (z:Int) (r:List Int):(a++z :: r)[a.length]? = some z:=by
 rw [List.getElem?_append_right (Nat.le_refl _),Nat.sub_self,List.getElem?_cons_zero]
theorem Cells.setI {w:World} {g:Nat} {a r:List Int} {z:Int} (h:Cells w g 2 ((a++z :: r).map (Value.int .i64))) (x:Int):Cells (w.setCell ⟨g,a.length,none⟩ (.int .i64 x)) g 2 ((a++x :: r).map (Value.int .i64)):=by
 have h2:=h.set_ a.length (.int .i64 x)
 rw [←List.map_set,set_mid] at h2
 exact h2
theorem Cells.getI {w:World} {g:Nat} {a r:List Int} {z:Int} (h:Cells w g 2 ((a++z :: r).map (Value.int .i64))):w.cell? ⟨g,a.length,none⟩=some (.int .i64 z):=by
 rw [h.cell,List.getElem?_map,get_mid];rfl
theorem onlySet {w0 w:World} {g:Nat} (h:Only (fun q=>q=g) w0 w) (k:Nat) (x:Value):Only (fun q=>q=g) w0 (w.setCell ⟨g,k,none⟩ x):=
 h.trans ⟨rfl,rfl,rfl,by simp [World.setCell],fun q _ hq=>Below.heap_setCell _ _ _ _ hq⟩
theorem snocZ {l:List Int} {n:Nat} (h:l.length=n+1):∃ (a:List Int) (z:Int),a.length=n∧l=a++[z]:=by
 refine ⟨l.take n,l[n]'(by omega),by simp;omega, ?_⟩
 conv=>lhs;rw [←List.take_append_drop n l]
 congr 1
 rw [List.drop_eq_getElem_cons (by omega),List.drop_eq_nil_of_le (by omega)]
theorem NoneBef.notTop {u k:Nat} {ts:List Term'} {v:Int} {z:Int} (h:NoneBef u ts ([]++z :: List.replicate k 12)) (h0:pvL ts ([]++z :: List.replicate k 12) ts.length=0) (hp:PolyG v ts) (hu:u=v.toNat) (hc:Canon ts) (hne:ts≠[]):z≠12:=by
 intro e
 subst e
 have hl:=(gridOk_mem.1 h.1).1
 have e2:([]++(12:Int) :: List.replicate k 12)=List.replicate u 12:=by
  rw [←hl];simp [List.replicate_succ]
 rw [e2] at h h0
 subst hu
 exact h.notAll h0 (grid_g hp hc hne)
theorem NoneBef.z12 {u k:Nat} {ts:List Term'} {a:List Int} {z:Int} (h:NoneBef u ts (a++z :: List.replicate k 12)):0≤z∧z≤12:=(gridOk_mem.1 h.1).2 z (by simp)
theorem pt_less {w w':World} {g n k:Nat} {a:List Int} {z:Int} (h1:ptOf w g n=a++z :: List.replicate k 12) (h2:ptOf w' g n=a++(z+1) :: List.replicate k 0) (hg:gridOk n (a++z :: List.replicate k 12)) :
  ((13:Int) ^ n - num13 (ptOf w' g n)).toNat<((13:Int) ^ n - num13 (ptOf w g n)).toNat:=by
 have h3:=gridOk_mem.1 hg
 have h4:=(num13_bd h3.2).2
 rw [h3.1] at h4
 rw [h1,h2,num13_next]
 omega
theorem NoneBef.pos {n:Nat} {ts:List Term'} {l:List Int} {v:Int} (h:NoneBef n ts l) (h0:pvL ts l ts.length=0) (hp:PolyG v ts) (hu:n=v.toNat) (hc:Canon ts) (hne:ts≠[]):0<n:=by
 rcases Nat.eq_zero_or_pos n with e | e
 ·exfalso
  have hl:=(gridOk_mem.1 h.1).1
  have e2:l=List.replicate n 12:=by
   rw [e] at hl ⊢
   exact List.length_eq_zero_iff.1 hl
  rw [e2] at h h0
  exact h.notAll h0 (by rw [hu];exact grid_g hp hc hne)
 ·exact e
end
section
open Go.RowKit Plain
theorem chk_bad {v:Int} {l r:Nd} (h:ruleOk v l r=false):chkV v l r=((false,[]),1):=by unfold chkV;rw [if_neg (by rw [h];simp)]
theorem chk_err {v:Int} {l r:Nd} (h:ruleOk v l r=true) (hc:(gapV v l r).2≠0):chkV v l r=((false,[]),(gapV v l r).2):=by unfold chkV;rw [if_pos h,if_neg hc]
theorem chk_yes {v:Int} {l r:Nd} (h:ruleOk v l r=true) (hc:(gapV v l r).2=0) (hn:(gapV v l r).1.2=[]):chkV v l r=((true,[]),0):=by unfold chkV;rw [if_pos h,if_pos hc,if_pos hn]
theorem chk_pt {v:Int} {l r:Nd} (h:ruleOk v l r=true) (hc:(gapV v l r).2=0) (hn:(gapV v l r).1.2≠[]) {p:List Int} (hp:FirstPt v.toNat (gapV v l r).1.2 p):chkV v l r=((false,p),0):=by unfold chkV;rw [if_pos h,if_pos hc,if_neg hn,firstPt_eq hp]
theorem retChk0 {w w1:World} {b:Bool} {c:Int} (hb:Below w.heap.size w w1):RetbIi b [] c w (.returned (.tuple #[.bool b,.slice none 0 0,.int .i64 c])) w1:=⟨hb,none,0,rfl,(IntsM.nil _ _ _).reg hb.size⟩
theorem checkI (v:Int) (l r:Nd) (KL KR:Option Addr) (cl cr B:Nat) (w:World) (hL:ExSl w B l.ks KL) (hcl:l.ks.len≤cl) (hml:cl≤maxLen) (hR:ExSl w B r.ks KR) (hcr:r.ks.len≤cr) (hmr:cr≤maxLen) (hB:B≤w.heap.size) (hsl:l.ks.size≤1048576) (hsr:r.ks.size≤1048576) :
  Calls Tryz.prog 13 #[ruV v l KL cl r KR cr] w (RetbIi (chkV v l r).1.1 (chkV v l r).1.2 (chkV v l r).2 w):=by
 obtain ⟨W0,hW0⟩:∃ W0,W0=w.alloc (.cells #[.int .i64 v,.int .i64 l.k,.int .i64 l.n,.int .i64 l.p,.int .i64 l.c,.slice KL l.ks.len cl,.int .i64 r.k,.int .i64 r.n,.int .i64 r.p,.int .i64 r.c,.slice KR r.ks.len cr] 35):=⟨_,rfl⟩
 have HB0:Hid (Below w.heap.size w W0):=by show Below _ _ _;rw [hW0];go_grown
 have HQ0:Hid (Cells W0 w.heap.size 35 [.int .i64 v,.int .i64 l.k,.int .i64 l.n,.int .i64 l.p,.int .i64 l.c,.slice KL l.ks.len cl,.int .i64 r.k,.int .i64 r.n,.int .i64 r.p,.int .i64 r.c,.slice KR r.ks.len cr]):=by
  show Cells _ _ _ _
  rw [hW0];exact Cells.new w 35 _
 have HW0:=hid hW0
 have HRK:=hid (ruleI_any v l r KL KR cl cr B W0 (hL.below (HB0.out.mono hB)) hcl hml (hR.below (HB0.out.mono hB)) hcr hmr (Nat.le_trans hB HB0.out.size) hsl hsr)
 have HLR:=hid (And.intro (hL.below (HB0.out.mono hB)) (hR.below (HB0.out.mono hB)))
 obtain ⟨cv,hcv⟩:∃ x,x=chkV v l r:=⟨_,rfl⟩
 rw [←hcv]
 have HCV:=hid hcv
 clear hcv hL hR hW0 hsl hsr
 have HX:Hid (∀ wx,Below W0.heap.size W0 wx→wx.cell? ⟨w.heap.size,0,none⟩=some (.int .i64 v)∧wx.cell? ⟨w.heap.size,1,none⟩=some (.int .i64 l.k)∧wx.cell? ⟨w.heap.size,2,none⟩=some (.int .i64 l.n)∧wx.cell? ⟨w.heap.size,3,none⟩=some (.int .i64 l.p)∧wx.cell? ⟨w.heap.size,4,none⟩=some (.int .i64 l.c)∧wx.cell? ⟨w.heap.size,5,none⟩=some (.slice KL l.ks.len cl)∧wx.cell? ⟨w.heap.size,6,none⟩=some (.int .i64 r.k)∧wx.cell? ⟨w.heap.size,7,none⟩=some (.int .i64 r.n)∧wx.cell? ⟨w.heap.size,8,none⟩=some (.int .i64 r.p)∧wx.cell? ⟨w.heap.size,9,none⟩=some (.int .i64 r.c)∧wx.cell? ⟨w.heap.size,10,none⟩=some (.slice KR r.ks.len cr)):=fun wx hb=>by
  have h:=HQ0.out.next hb
  exact ⟨(h.cell 0).trans rfl,(h.cell 1).trans rfl,(h.cell 2).trans rfl,(h.cell 3).trans rfl,(h.cell 4).trans rfl,(h.cell 5).trans rfl,(h.cell 6).trans rfl,(h.cell 7).trans rfl,(h.cell 8).trans rfl,(h.cell 9).trans rfl,(h.cell 10).trans rfl⟩
 go_enter Tryz.func13,Tryz.ntmps13
 go_upto_region 1 with fail
 rw [←HW0.out]
 obtain ⟨x0,x1,x2,x3,x4,x5,x6,x7,x8,x9,x10⟩:=HX.out W0 (Below.refl _ _)
 go_wp2_with fail
 refine HRK.out.mono ?_;rintro e w1 ⟨rfl,hb1⟩
 clear x0 x1 x2 x3 x4 x5 x6 x7 x8 x9 x10 HRK
 by_cases hok:ruleOk v l r=true
 case neg=>
  have hok':ruleOk v l r=false:=by simpa using hok
  have HV:=hid (HCV.out.trans (chk_bad hok'))
  have HBF:=hid (HB0.out.trans (hb1.mono HB0.out.size))
  rw [hok']
  clear hok hok' hb1
  go_wp2
  refine bodyPost_ret (v:=.tuple #[.bool false,.slice none 0 0,.int .i64 1]) (by simp [results,Tryz.results13,go_sem]) rfl ?_
  rw [HV.out]
  exact retChk0 HBF.out
 case pos=>
  obtain ⟨v0,v3,hsl,hsr⟩:=ruleOk_parts hok
  have HGI:=hid (gapI v l r KL KR cl cr B w1 (HLR.out.1.below (hb1.mono (Nat.le_trans hB HB0.out.size))) hcl hml (HLR.out.2.below (hb1.mono (Nat.le_trans hB HB0.out.size))) hcr hmr (Nat.le_trans hB (Nat.le_trans HB0.out.size hb1.size)) v0 v3 hsl hsr)
  have HOK:=hid hok
  rw [hok]
  clear hok hsl hsr
  obtain ⟨x0,x1,x2,x3,x4,x5,x6,x7,x8,x9,x10⟩:=HX.out w1 hb1
  have HB1:=hid hb1
  clear hb1
  obtain ⟨gv,hgv⟩:∃ x,x=gapV v l r:=⟨_,rfl⟩
  rw [←hgv] at HGI
  obtain ⟨⟨gu,ts⟩,gc⟩:=gv
  have HGV:=hid hgv
  clear hgv
  go_wp2_with fail
  refine HGI.out.mono ?_;rintro e w2 ⟨⟨hb2,A2,c2,rfl,hRT⟩,hgok⟩
  clear x0 x1 x2 x3 x4 x5 x6 x7 x8 x9 x10 HGI
  have HBF:Hid (Below w.heap.size w w2):=HB0.out.trans ((HB1.out.mono HB0.out.size).trans (hb2.mono (Nat.le_trans HB0.out.size HB1.out.size)))
  have hbx2:=(HB1.out.trans (hb2.mono HB1.out.size))
  by_cases hgc:gc=0
  case neg=>
   have HV:=hid (HCV.out.trans (chk_err HOK.out (by rw [←HGV.out];exact hgc)))
   rw [←HGV.out] at HV
   have hgb:(gc != 0)=true:=by simpa using hgc
   clear hgc hb2 hRT hgok hbx2
   go_wp2
   refine bodyPost_ret (v:=.tuple #[.bool false,.slice none 0 0,.int .i64 gc]) (by simp [results,Tryz.results13,go_sem]) rfl ?_
   rw [HV.out]
   exact retChk0 (HBF.out.alloc HBF.out.size _)
  case pos=>
   subst hgc
   obtain ⟨hu,hpg,hcan⟩:=hgok rfl
   simp only at hu hpg hcan
   subst hu
   obtain ⟨n,rfl⟩:∃ n:Nat,gu=n:=⟨gu.toNat,by omega⟩
   have HPG:=hid hpg
   have HCAN:=hid hcan
   have hl1000:=hpg.1.2.2
   clear hpg hcan hgok
   by_cases hne:ts=[]
   ·have HV:=hid (HCV.out.trans (chk_yes HOK.out (by rw [←HGV.out]) (by rw [←HGV.out];exact hne)))
    have hlz:(((ts.length:Nat):Int)==0)=true:=by rw [hne];rfl
    clear hne hb2 hRT hbx2
    go_wp2
    refine bodyPost_ret (v:=.tuple #[.bool true,.slice none 0 0,.int .i64 0]) (by simp [results,Tryz.results13,go_sem]) rfl ?_
    rw [HV.out]
    exact retChk0 (HBF.out.alloc HBF.out.size _)
   ·have hlz:(((ts.length:Nat):Int)==0)=false:=by
     cases ts with
     | nil=>exact absurd rfl hne
     | cons t r=>simp;omega
    have x0:(w2.alloc (.cells #[.int .i64 (n:Int),.slice A2 ts.length c2] 86)).cell? ⟨w.heap.size,0,none⟩=some (.int .i64 (n:Int)):=keepC (HX.out w2 hbx2).1 (by go_grown)
    have HNE:=hid hne
    have HT2:=hid (show TmsAt w2 A2 ts from regTms hRT (by show totT ts≤9223372036854775807;have:=(nf_bd (fun t ht=>by have:=(termOk_parts (HPG.out.2 t ht)).1;omega) (by omega:n≤12) hl1000 (by omega)).2;rw [nfT_self HCAN.out] at this;omega))
    have HBX:=hid hbx2
    have hmk:=run_make_row' (P:=Tryz.prog) 28 2 (.int .i64 0) 8 Tryz.underlying28 Tryz.infoI rfl .i64 .i64 n (by omega) (by omega)
    rw [madeCells_one] at hmk
    obtain ⟨W4,hW4⟩:∃ W4,W4=(w2.alloc (.cells #[.int .i64 (n:Int),.slice A2 ts.length c2] 86)).alloc (.cells (Array.replicate n (Value.int .i64 0)) 2):=⟨_,rfl⟩
    have hg4:Below w2.heap.size w2 W4:=by rw [hW4];go_grown
    have HP4:Hid (Cells W4 w2.heap.size 86 [.int .i64 (n:Int),.slice A2 ts.length c2]):=by
     show Cells _ _ _ _
     rw [hW4];exact (Cells.new w2 86 _).next (by go_grown)
    have HR4:Hid (Cells W4 (w2.heap.size+1) 2 ((List.replicate n (0:Int)).map (Value.int .i64))):=by
     show Cells _ _ _ _
     rw [hW4,List.map_replicate]
     have:=Cells.new (w2.alloc (.cells #[.int .i64 (n:Int),.slice A2 ts.length c2] 86)) 2 (List.replicate n (Value.int .i64 0))
     simpa using this
    have HW4:=hid hW4
    have HTK:Hid (∀ wr,Only (fun q=>q=w2.heap.size+1) W4 wr→TmsAt wr A2 ts):=fun wr ho=>HT2.out.below (hg4.trans (ho.below hg4.size (fun q e=>by omega)))
    have HBF4:=hid (HBF.out.trans (hg4.mono HBF.out.size))
    have HS2:=hid HBF.out.size
    clear hW4 hg4 HT2 hRT hb2 hbx2 hne
    go_upto_region 9 with fail
    rw [←HW4.out]
    clear x0 hmk
    clear HW4
    have hw22:w.heap.size≤w2.heap.size:=HS2.out
    generalize w2.heap.size=bx at *
    have HLG:Hid (∀ l,NoneBef n ts l→l.length=n):=fun l h=>(gridOk_mem.1 h.1).1
    have hbw4:bx+1<W4.heap.size:=HR4.out.lt
    have HTO:Hid (∀ wr,Only (fun q=>q=bx+1) W4 wr→TmsAt wr A2 ts):=HTK.out
    go_loopw [8] (fun _ wr=>∃ l:List Int,Hid (Cells wr (bx+1) 2 (l.map (Value.int .i64)))∧Hid (NoneBef n ts l)∧Hid (Only (fun q=>q=bx+1) W4 wr)) (fun _ wr=>((13:Int) ^ n - num13 (ptOf wr (bx+1) n)).toNat)
    case atStart=>exact ⟨List.replicate n 0,HR4.out,NoneBef.zero n ts,Only.refl _ _⟩
    case round=>
     obtain ⟨l0,HC,HN,HO⟩:=hrel
     have hln:=HLG.out l0 HN.out
     have hIT:IntsT wr W4.heap.size (some ⟨bx+1,0,none⟩) l0∨True:=.inr trivial
     clear hIT
     have hO2:=HO.out
     have hp4:=only_cells HP4.out hO2 (by omega)
     have q0:wr.cell? ⟨bx,0,none⟩=some (.int .i64 (n:Int)):=by rw [hp4.cell];rfl
     have q1:wr.cell? ⟨bx,1,none⟩=some (.slice A2 ts.length c2):=by rw [hp4.cell];rfl
     have hTw:TmsAt wr A2 ts:=HTO.out wr hO2
     have HVL:=hid (valueI_g n A2 c2 ts (some ⟨bx+1,0,none⟩) n l0 wr hTw HPG.out (HC.out.intsT (Nat.le_refl _)).ints (by omega))
     rw [hln] at HVL
     obtain ⟨pz,hpz⟩:∃ z,z=pvL ts l0 ts.length:=⟨_,rfl⟩
     rw [←hpz] at HVL
     have HPZ:=hid hpz
     clear hpz hp4 hTw hO2
     go_wp2_with fail
     refine HVL.out.mono ?_;rintro e w5 ⟨rfl,hb5⟩
     have HC5:=hid (HC.out.next hb5)
     have HO5:=hid (HO.out.trans (Only.of_below hb5))
     have HS5:=hid hb5.size
     have HPT:Hid (ptOf wr (bx+1) n=l0):=by show _=_;rw [←hln];exact ptOf_eq HC.out
     clear q0 q1 hb5 HVL HC HO
     by_cases hz0:pz=0
     ·subst hz0
      have hn1:0<n:=HN.out.pos HPZ.out.symm HPG.out (by simp) HCAN.out HNE.out
      obtain ⟨a0,z0,ha0,hl0⟩:=snocZ (n:=n - 1) (l:=l0) (by omega)
      have HL0:=hid hl0
      have HLTG:Hid (∀ w' (a:List Int) (z:Int) (k:Nat),l0=a++z :: List.replicate k 12→ptOf w' (bx+1) n=a++(z+1) :: List.replicate k 0→((13:Int) ^ n - num13 (ptOf w' (bx+1) n)).toNat<((13:Int) ^ n - num13 (ptOf wr (bx+1) n)).toNat):=fun w' a z k h1 h2=>pt_less (HPT.out.trans h1) h2 (by rw [←h1];exact HN.out.1)
      clear hl0
      go_wp2_with fail
      go_loopw [8] (fun at_ wr2=>∃ (a:List Int) (z:Int) (k:Nat),at_=.int .i64 (a.length:Int)∧Hid (l0=a++z :: List.replicate k 12)∧Hid (Cells wr2 (bx+1) 2 ((a++z :: List.replicate k 0).map (Value.int .i64)))∧Hid (Only (fun q=>q=bx+1) W4 wr2)) (fun at_ _=>(intOf at_).toNat)
      case atStart=>exact ⟨a0,z0,0,by congr 1;omega,HL0.out,by show Cells _ _ _ _;have h:=HC5.out;rw [HL0.out] at h;exact h,HO5.out⟩
      case round=>
       obtain ⟨a,z,k,rfl,HLE,HC6,HO6⟩:=hrel
       have hx1:=HC6.out.getI
       have hx2:=HC6.out.frozen a.length
       have hN6:=HN.out
       rw [HLE.out] at hN6
       have hz12:=hN6.z12
       have hla:a.length<n:=by have h:=hln;rw [HLE.out] at h;simp at h;omega
       have hP6:=HPZ.out
       rw [HLE.out] at hP6
       have HNT:Hid (a=[]→z≠12):=fun e=>by
        subst e
        exact hN6.notTop hP6.symm HPG.out (by simp) HCAN.out HNE.out
       have HN6:=hid hN6
       have HP6:=hid hP6
       clear hN6 hP6
       by_cases hz:z=12
       ·subst hz
        have hap:0<a.length:=by
         rcases Nat.eq_zero_or_pos a.length with e | e
         ·exact absurd rfl (HNT.out (List.length_eq_zero_iff.1 e))
         ·exact e
        have hap2:(0:Int)<(a.length:Int):=by omega
        obtain ⟨a',z',hla',hae⟩:=snocZ (n:=a.length - 1) (l:=a) (by omega)
        have HNX:Hid (Cells (wr.setCell ⟨bx+1,a.length,none⟩ (.int .i64 0)) (bx+1) 2 ((a'++z' :: List.replicate (k+1) 0).map (Value.int .i64))):=by
         have h:=HC6.out.setI 0
         show Cells _ _ _ _
         have e:a'++z' :: List.replicate (k+1) 0=a++0 :: List.replicate k 0:=by rw [hae];simp [List.replicate_succ]
         rw [e];exact h
        have HNL:Hid (l0=a'++z' :: List.replicate (k+1) 12):=by
         show _=_
         rw [HLE.out,hae];simp [List.replicate_succ]
        have HNO:=hid (onlySet HO6.out a.length (.int .i64 0))
        clear hae HNT HN6 HP6
        go_wp2
        go_roundw
        case rel=>exact ⟨a',z',k+1,by congr 1;omega,HNL.out,HNX.out,HNO.out⟩
        case measure=>simp [intOf];omega
       ·have hzb:(z==12)=false:=by simpa using hz
        have HNX:Hid (Cells (wr.setCell ⟨bx+1,a.length,none⟩ (.int .i64 (z+1))) (bx+1) 2 ((a++(z+1) :: List.replicate k 0).map (Value.int .i64))):=HC6.out.setI (z+1)
        have HNN:Hid (NoneBef n ts (a++(z+1) :: List.replicate k 0)):=HN6.out.next (by omega) HP6.out.symm
        have HNO:=hid (onlySet HO6.out a.length (.int .i64 (z+1)))
        have HLT:=hid (HLTG.out (wr.setCell ⟨bx+1,a.length,none⟩ (.int .i64 (z+1))) a z k HLE.out (by
         have h:=ptOf_eq HNX.out
         have h2:=HLG.out _ HNN.out
         rw [h2] at h
         exact h))
        have hz1:=hz12.1
        have hz2:=hz12.2
        clear hz HNT HN6 HP6 hz12
        by_cases hap:0<a.length
        ·have hap2:(0:Int)<(a.length:Int):=by omega
         go_wp2
         go_roundw
         case rel=>exact ⟨_,HNX.out,HNN.out,HNO.out⟩
         case measure=>exact HLT.out
        ·have hap2:¬ (0:Int)<(a.length:Int):=by omega
         go_wp2
         go_roundw
         case rel=>exact ⟨_,HNX.out,HNN.out,HNO.out⟩
         case measure=>exact HLT.out
     ·have hzb:(pz==0)=false:=by simpa using hz0
      have HV:=hid (HCV.out.trans (chk_pt HOK.out (by rw [←HGV.out]) (by rw [←HGV.out];exact HNE.out) (p:=l0) (by rw [←HGV.out,Int.toNat_natCast];exact ⟨HN.out,by rw [←HPZ.out];exact hz0⟩)))
      have HRI:Hid (Below w.heap.size w w5∧RI w5 w.heap.size w5.heap.size (some ⟨bx+1,0,none⟩) l0):=by
       have h1:Below w.heap.size w w5:=HBF4.out.trans (HO5.out.below (by have:=HBF4.out.size;omega) (fun q e=>by omega))
       exact ⟨h1,(HC5.out.intsT (B:=w.heap.size) (by omega)).m.reg h1.size⟩
      clear hz0
      go_wp2
      refine bodyPost_ret (v:=.tuple #[.bool false,.slice (some ⟨bx+1,0,none⟩) n n,.int .i64 0]) (by simp [results,Tryz.results13,go_sem]) rfl ?_
      rw [HV.out]
      exact ⟨HRI.out.1,_,n,by rw [hln],HRI.out.2⟩
end
end Go.Proofs.YtgfkglhelfkpoaaGreat
